/- Events, by the reference: which ones are ok; their texts. -/
import Derived.Test.YtgbfmdihmnpcdaaGreatDoorRW1
namespace Go.Proofs.YtgbfmdihmnpcdaaGreatDoor
open Go Go.Pm Go.Proofs
set_option linter.unusedVariables false
set_option linter.unusedSimpArgs false
set_option maxRecDepth 100000
set_option maxHeartbeats 4000000
theorem p120 (b : Bool) (l : List (List Int)) (hl : lenBB l) (hk : ∀ x ∈ l, byteOk x = true) : phi C0 (lim C0) 120 [.pv b (.sl (rws byP l))] [] = some ((bv (adrsB l)), []) := call0 Tryz.func120 (by kernel_rfl) ((show ∀ fn : Func, fn.results = #[.tmp 2] → globs fn = [0, 6, 3, 10, 36, 2] → lim C0 120 fn [.c (code Tryz.f120)] ⟨_, _⟩ = _ from fun fn hr hg => by
 have hp6 := plan120_6
 simp [opsOf, code, Tryz.f120] at hp6
 obtain ⟨hl, hb⟩ := hl
 simp [code, Tryz.f120, hr, hg, hp6]
 (first | refine ifL_cases (fun h => ?_) (fun h => ?_) | refine gI_cases' (fun h => ?_) (fun h => ?_) | refine gI_cases (fun h => ?_) (fun h => ?_) | refine dI_cases' (fun h => ?_) (fun h => ?_) | refine dI_cases (fun h => ?_) (fun h => ?_)) <;> first | replace h := of_decide_eq_true h | replace h := of_decide_eq_false h | skip
 · have : ¬ l.length ≤ 8 := by omega
   simp [hg, hr, adrsB, this]
 have hl8 : l.length ≤ 8 := by omega
 have e8 : adrsB l = ascA none l := by simp [hg, adrsB, hl8]
 have h8 : decide ((8 : Int) < (l.length : Nat)) = false := by simp [hg]; omega
 rw [e8]
 simp only [h8]
 simp [hg]
 refine (loop_to (s0 := ?s1) (fun i => l.length - i) (fun i => [(3, (iv ((i : Nat))))]) (fun i => []) (fun i K => (if ascA (if i = 0 then none else l[i-1]?) (l.drop i) then K [(3, (iv l.length))] [] else some ((bv false), []))) (fun i => i ≤ l.length) 0 ?hc1 ?h01 ?hs1 ?step1).trans ?r1
 case hc1 => simp; rfl
 case h01 => first | (simp; done) | (simp [*]; done) | exact ⟨by simp, ⟨rfl⟩⟩ | grind | (simp; omega)
 case hs1 => first | (simp; done) | (simp [*]; done)
 case r1 =>
  by_cases ha : ascA none l = true
  · simp [hg, ha, hr]
  · simp [hg, hr, ha]
 intro k i hi ih
 simp [hg]
 (first | refine ifL_cases (fun h => ?_) (fun h => ?_) | refine gI_cases' (fun h => ?_) (fun h => ?_) | refine gI_cases (fun h => ?_) (fun h => ?_) | refine dI_cases' (fun h => ?_) (fun h => ?_) | refine dI_cases (fun h => ?_) (fun h => ?_)) <;> first | replace h := of_decide_eq_true h | replace h := of_decide_eq_false h | skip
 · have hlt : i < l.length := h
   have q4 := p58 l[i] (hb _ (List.getElem_mem hlt))
   rw [addr_is] at q4
   have ea := ascA_at hlt
   have eg : l[i]? = some l[i] := List.getElem?_eq_getElem hlt
   by_cases hi0 : i = 0
   · subst hi0
     simp at ea
     simp [hr, hg, hp6, hlt, byP, q4, ea]
     repeat' ((first | refine ifL_cases (fun h => ?_) (fun h => ?_) | refine gI_cases' (fun h => ?_) (fun h => ?_) | refine gI_cases (fun h => ?_) (fun h => ?_) | refine dI_cases' (fun h => ?_) (fun h => ?_) | refine dI_cases (fun h => ?_) (fun h => ?_)) <;> first | replace h := of_decide_eq_true h | replace h := of_decide_eq_false h | skip
              all_goals try simp [hr, hg, hp6, hlt, byP, hr, *])
     all_goals try simp [hg, hr]
     refine (ih.out 1 _ ?_ ?_ ?_).trans ?_
     · omega
     · omega
     · simp [hg, *]
     · simp [hg, List.getElem?_eq_getElem hlt]
   · obtain ⟨j, hj⟩ : ∃ j, j + 1 = i := ⟨i - 1, by omega⟩
     have hij : i - 1 = j := by omega
     have hlj : j < l.length := by omega
     have q5 := bin_geq (tk := .str) (hk _ (List.getElem_mem hlj)) (hk _ (List.getElem_mem hlt))
     have hw : IntKind.i64.wrap ((i : Int) - 1) = (j : Int) := by rw [show (i : Int) - 1 = j by omega]; exact wrap_id' (by omega)
     simp only [hij, hi0, if_false, dite_false, List.getElem?_eq_getElem hlj] at ea
     have e3 : 0 < i := by omega
     have hw2 : IntKind.i64.wrap ((i : Int) + 1) = i + 1 := wrap_id' (by omega)
     simp only [hi0, if_false, hij, List.getElem?_eq_getElem hlj]
     simp [hr, hg, hp6, hlt, byP, q4, ea]
     repeat' ((first | refine ifL_cases (fun h => ?_) (fun h => ?_) | refine gI_cases' (fun h => ?_) (fun h => ?_) | refine gI_cases (fun h => ?_) (fun h => ?_) | refine dI_cases' (fun h => ?_) (fun h => ?_) | refine dI_cases (fun h => ?_) (fun h => ?_)) <;> first | replace h := of_decide_eq_true h | replace h := of_decide_eq_false h | skip
              all_goals try simp [hr, hg, hp6, hlt, byP, hr, hlj, q5, hw, hw2, e3, *])
     all_goals try simp [hg, hr]
     · refine (ih.out (i + 1) _ ?_ ?_ ?_).trans ?_
       · omega
       · omega
       · simp [hg, *]
       · have h10 : cmpB l[j] l[i] < 0 := by omega
         simp [hg, List.getElem?_eq_getElem hlt, h10]
 · have e : i = l.length := by omega
   subst e
   simp [hg, ascA]
 ) Tryz.f120 Tryz.results120 gl120)
theorem p173 (a b : Int) : phi C0 (lim C0) 173 [(iv a), (iv b)] [] = some ((iv (if a < b then -1 else if b < a then 1 else 0)), []) := call0 Tryz.func173 (by kernel_rfl) ((show ∀ fn : Func, fn.results = #[.tmp 4] → lim C0 173 fn [.c (code Tryz.f173)] ⟨_, _⟩ = _ from fun fn hr => by
 simp [code, Tryz.f173, hr]
 repeat' ((first | refine ifL_cases (fun h => ?_) (fun h => ?_) | refine gI_cases' (fun h => ?_) (fun h => ?_) | refine gI_cases (fun h => ?_) (fun h => ?_) | refine dI_cases' (fun h => ?_) (fun h => ?_) | refine dI_cases (fun h => ?_) (fun h => ?_)) <;> first | replace h := of_decide_eq_true h | replace h := of_decide_eq_false h | skip
          all_goals try simp [hr, hr, *])
 ) Tryz.f173 Tryz.results173)
theorem p150 (v : Val) (b1 b2 b3 : Bool) (hv : v.l.length ≤ 1048576) (ih0 : ∀ u ∈ v.l, ∀ b1 b2 b3 : Bool, phi C0 (lim C0) 150 [.ag [(iv u.kind), (iv u.n), .pv b1 (.sl (nums .u8 u.s)), .pv b2 (.sl (rws byP u.k)), .pv b3 (.sl (rws vP u.l))]] [] = some ((bv (knB u)), [])) : phi C0 (lim C0) 150 [.ag [(iv v.kind), (iv v.n), .pv b1 (.sl (nums .u8 v.s)), .pv b2 (.sl (rws byP v.k)), .pv b3 (.sl (rws vP v.l))]] [] = some ((bv (knB v)), []) := call0 Tryz.func150 (by kernel_rfl) ((show ∀ fn : Func, fn.results = #[.tmp 2] → globs fn = [0, 1, 6, 3, 11, 20, 2] → lim C0 150 fn [.c (code Tryz.f150)] ⟨_, _⟩ = _ from fun fn hr hg => by
 rw [knB_eq]
 simp [code, Tryz.f150, hr, hg]
 (first | refine ifL_cases (fun h => ?_) (fun h => ?_) | refine gI_cases' (fun h => ?_) (fun h => ?_) | refine gI_cases (fun h => ?_) (fun h => ?_) | refine dI_cases' (fun h => ?_) (fun h => ?_) | refine dI_cases (fun h => ?_) (fun h => ?_)) <;> first | replace h := of_decide_eq_true h | replace h := of_decide_eq_false h | skip
 · simp [hg, hr, h]
 simp [hg, h]
 refine (loop_to (s0 := ?s2) (fun i => v.l.length - i) (fun i => [(3, (iv ((i : Nat))))]) (fun i => [(16, .box [(iv v.kind), (iv v.n), .pv b1 (.sl (nums .u8 v.s)), .pv b2 (.sl (rws byP v.k)), .pv b3 (.sl (rws vP v.l))])]) (fun i K => (if anyB (fun x => !knB x) (v.l.drop i) then some ((bv false), []) else K [(3, (iv v.l.length))] [(16, .box [(iv v.kind), (iv v.n), .pv b1 (.sl (nums .u8 v.s)), .pv b2 (.sl (rws byP v.k)), .pv b3 (.sl (rws vP v.l))])])) (fun i => i ≤ v.l.length) 0 ?hc2 ?h02 ?hs2 ?step2).trans ?r2
 case hc2 => simp; rfl
 case h02 => first | (simp; done) | (simp [*]; done) | exact ⟨by simp, ⟨rfl⟩⟩ | grind | (simp; omega)
 case hs2 => first | (simp; done) | (simp [*]; done)
 case r2 =>
  cases ha : anyB (fun x => !knB x) v.l
  · simp [hg, ha, hr, hg]
  · simp [hg, ha]
 intro k i hi ih
 simp [hg]
 (first | refine ifL_cases (fun h => ?_) (fun h => ?_) | refine gI_cases' (fun h => ?_) (fun h => ?_) | refine gI_cases (fun h => ?_) (fun h => ?_) | refine dI_cases' (fun h => ?_) (fun h => ?_) | refine dI_cases (fun h => ?_) (fun h => ?_)) <;> first | replace h := of_decide_eq_true h | replace h := of_decide_eq_false h | skip
 · have hlt := h
   have q := ih0 v.l[i] (List.getElem_mem hlt)
   rw [anyB_at hlt]
   cases hk : knB v.l[i]
   · simp [hg, hlt, q, hk, hr, hg]
   · simp [hg, hlt, q, hk, hr, hg]
     try simp (disch := omega) only [wrap_id']
     refine (ih.out (i + 1) _ ?_ ?_ ?_).trans ?_
     · omega
     · omega
     · simp [hg]
     · simp [hg]
 · have e : i = v.l.length := by omega
   subst e
   simp [hg]
 ) Tryz.f150 Tryz.results150 gl150)
theorem pL2known (v : Val) (hv : VLen v) : ∀ (b1 b2 b3 : Bool), phi C0 (lim C0) 150 [.ag [(iv v.kind), (iv v.n), .pv b1 (.sl (nums .u8 v.s)), .pv b2 (.sl (rws byP v.k)), .pv b3 (.sl (rws vP v.l))]] [] = some ((bv (knB v)), []) := by
 revert hv
 refine Val.ind1 (P := fun v => VLen v → ∀ (b1 b2 b3 : Bool), phi C0 (lim C0) 150 [.ag [(iv v.kind), (iv v.n), .pv b1 (.sl (nums .u8 v.s)), .pv b2 (.sl (rws byP v.k)), .pv b3 (.sl (rws vP v.l))]] [] = some ((bv (knB v)), [])) (fun v ih hv b1 b2 b3 => ?_) v
 exact p150 v b1 b2 b3 hv.here.2.2 fun u hu => ih u hu (hv.sub u hu)
theorem p151_zero (v : Val) (b1 b2 b3 : Bool) (hv : v.l.length ≤ 1048576) : phi C0 (lim C0) 151 [.ag [(iv v.kind), (iv v.n), .pv b1 (.sl (nums .u8 v.s)), .pv b2 (.sl (rws byP v.k)), .pv b3 (.sl (rws vP v.l))], .ag [(iv 0), (iv 0), .pv false (.sl []), .pv false (.sl []), .pv false (.sl [])]] [] = some ((iv (if v.kind < 0 then -1 else if 0 < v.kind then 1 else if v.n < 0 then -1 else if 0 < v.n then 1 else if v.l = [] then 0 else 1)), []) := call0 Tryz.func151 (by kernel_rfl) ((show ∀ fn : Func, fn.results = #[.tmp 4] → globs fn = [1, 0, 3, 2, 12, 20, 30, 5, 47, 52, 6, 65, 7, 79, 4] → lim C0 151 fn [.c (code Tryz.f151)] ⟨_, _⟩ = _ from fun fn hr hg => by
 have hp11 := plan151_11
 simp [opsOf, code, Tryz.f151] at hp11
 have hp14 := plan151_14
 simp [opsOf, code, Tryz.f151] at hp14
 have q := p173
 by_cases k0 : v.kind = 0
 · by_cases n0 : v.n = 0
   · simp [code, Tryz.f151, hr, hg, hp11, hp14, k0, n0]
     refine (loop_to (s0 := ?s3) (fun i => 0 - i) (fun i => [(4, (iv ((i : Nat))))]) (fun i => [(16, .box [(iv 0), (iv 0), .pv b1 (.sl (nums .u8 v.s)), .pv b2 (.sl (rws byP v.k)), .pv b3 (.sl (rws vP v.l))]), (18, .box [(iv 0), (iv 0), .pv false (.sl []), .pv false (.sl []), .pv false (.sl [])])]) (fun i K => K [(4, (iv 0))] [(16, .box [(iv 0), (iv 0), .pv b1 (.sl (nums .u8 v.s)), .pv b2 (.sl (rws byP v.k)), .pv b3 (.sl (rws vP v.l))]), (18, .box [(iv 0), (iv 0), .pv false (.sl []), .pv false (.sl []), .pv false (.sl [])])]) (fun i => i = 0) 0 ?hc3 ?h03 ?hs3 ?step3).trans ?r3
     case hc3 => simp; rfl
     case h03 => first | (simp; done) | (simp [*]; done) | exact ⟨by simp, ⟨rfl⟩⟩ | grind | (simp; omega)
     case hs3 => first | (simp; done) | (simp [*]; done)
     case r3 =>
      have q1 := q (v.l.length : Int) 0
      simp [hg, q1, hr, hg, hp11, hp14]
      cases hv0 : v.l with
      | nil => simp [hg]
      | cons a l => simp [hg]; omega
     intro k i hi ih
     subst hi
     simp [hg]
     repeat' ((first | refine ifL_cases (fun h => ?_) (fun h => ?_) | refine gI_cases' (fun h => ?_) (fun h => ?_) | refine gI_cases (fun h => ?_) (fun h => ?_) | refine dI_cases' (fun h => ?_) (fun h => ?_) | refine dI_cases (fun h => ?_) (fun h => ?_)) <;> first | replace h := of_decide_eq_true h | replace h := of_decide_eq_false h | skip
              all_goals try simp [hr, hg, hp11, hp14, *])
     all_goals trace_state
   · have q1 := q v.n 0
     simp [code, Tryz.f151, hr, hg, hp11, hp14, k0, n0, q1]
     try omega
 · have q1 := q v.kind 0
   simp [code, Tryz.f151, hr, hg, hp11, hp14, k0, q1]
   try omega
 ) Tryz.f151 Tryz.results151 gl151)
def z2B (v : Val) : Bool := decide (v.kind = 0) && decide (v.n = 0) && decide (v.l = [])
theorem zero_is (v : Val) : (valB v && z2B v) = zeroB v := by
 cases hz : zeroB v
 · cases hv : valB v
   · rfl
   · have h1 : shV v 5 = true := by simp only [valB, Bool.and_eq_true] at hv; exact hv.1
     rw [shV_eq] at h1
     cases h2 : z2B v
     · rfl
     · simp only [z2B, Bool.and_eq_true, decide_eq_true_eq] at h2
       simp [h2.1.1] at h1
       simp [zeroB, h2.1.1, h1] at hz
 · simp only [zeroB, Bool.and_eq_true, decide_eq_true_eq] at hz
   obtain ⟨⟨⟨⟨a, b⟩, c⟩, d⟩, e⟩ := hz
   have h1 : shV v 5 = true := by rw [shV_eq]; simp [a, b, c, d, e]
   have h2 : ptV v = 1 := by rw [ptV_eq, e]; rfl
   simp [valB, z2B, a, b, e, h1, h2]
theorem p121 (v : Val) (b1 b2 b3 : Bool) (hv : v.l.length ≤ 1048576) : phi C0 (lim C0) 121 [.ag [(iv v.kind), (iv v.n), .pv b1 (.sl (nums .u8 v.s)), .pv b2 (.sl (rws byP v.k)), .pv b3 (.sl (rws vP v.l))]] [] = some ((bv (z2B v)), []) := call0 Tryz.func121 (by kernel_rfl) ((show ∀ fn : Func, fn.results = #[.tmp 2] → lim C0 121 fn [.c (code Tryz.f121)] ⟨_, _⟩ = _ from fun fn hr => by
 have q := p151_zero v b1 b2 b3 hv
 simp [code, Tryz.f121, hr, q]
 repeat' ((first | refine ifL_cases (fun h => ?_) (fun h => ?_) | refine gI_cases' (fun h => ?_) (fun h => ?_) | refine gI_cases (fun h => ?_) (fun h => ?_) | refine dI_cases' (fun h => ?_) (fun h => ?_) | refine dI_cases (fun h => ?_) (fun h => ?_)) <;> first | replace h := of_decide_eq_true h | replace h := of_decide_eq_false h | skip
          all_goals try simp [hr, hr, *])
 all_goals unfold z2B
 all_goals grind
 ) Tryz.f121 Tryz.results121)
theorem p119 (v : Val) (hv : VLen v) (hb : VBy v) (b1 b2 b3 : Bool) : phi C0 (lim C0) 119 [.ag [(iv v.kind), (iv v.n), .pv b1 (.sl (nums .u8 v.s)), .pv b2 (.sl (rws byP v.k)), .pv b3 (.sl (rws vP v.l))]] [] = some ((bv (kmapB v)), []) := call0 Tryz.func119 (by kernel_rfl) ((show ∀ fn : Func, fn.results = #[.tmp 2] → lim C0 119 fn [.c (code Tryz.f119)] ⟨_, _⟩ = _ from fun fn hr => by
 have q1 := p59 v hv hb
 have q2 := pL2known v hv
 simp only [valOk_is] at q1
 by_cases k5 : v.kind = 5
 · simp only [k5] at q1 q2
   simp [code, Tryz.f119, hr, k5, q1, q2]
   repeat' ((first | refine ifL_cases (fun h => ?_) (fun h => ?_) | refine gI_cases' (fun h => ?_) (fun h => ?_) | refine gI_cases (fun h => ?_) (fun h => ?_) | refine dI_cases' (fun h => ?_) (fun h => ?_) | refine dI_cases (fun h => ?_) (fun h => ?_)) <;> first | replace h := of_decide_eq_true h | replace h := of_decide_eq_false h | skip
            all_goals try simp [hr, q1, q2, hr, *])
   all_goals simp_all [kmapB, hr]
 · simp [code, Tryz.f119, hr, k5, kmapB]
 ) Tryz.f119 Tryz.results119)
theorem p84 (e : Ev) (he : EOk e) : phi C0 (lim C0) 84 [.ag [(iv e.kind), .pv false (.sl (nums .u8 e.addr)), (iv e.act), (iv e.val.kind), (iv e.val.n), .pv false (.sl (nums .u8 e.val.s)), .pv false (.sl (rws byP e.val.k)), .pv false (.sl (rws vP e.val.l)), .pv false (.sl (rws byP e.deps))]] [] = some ((bv (evB e)), []) := call0 Tryz.func84 (by kernel_rfl) ((show ∀ fn : Func, fn.results = #[.tmp 2] → lim C0 84 fn [.c (code Tryz.f84)] ⟨_, _⟩ = _ from fun fn hr => by
 have q1 := p58 e.addr he.addr
 rw [addr_is] at q1
 have q2 := p119 e.val he.vl he.vb
 have q3 := fun b => p120 b e.deps he.dl he.db
 have q4 := fun b1 b2 b3 => p59 e.val he.vl he.vb b1 b2 b3
 simp only [valOk_is] at q4
 have q5 := fun b1 b2 b3 => p121 e.val b1 b2 b3 he.vl.here.2.2
 have hne := @addrB_ne e.addr
 have hz := zero_is e.val
 have hlen : e.addr ≠ [] ↔ 0 < e.addr.length := List.length_pos_iff.symm
 have hev : evB e = if e.kind = 2 then addrB e.addr && decide (e.act = 0) && kmapB e.val && adrsB e.deps else
  if (valB e.val && z2B e.val) = false ∨ e.deps ≠ [] then false else
  if e.kind = 0 ∨ e.kind = 5 ∨ e.kind = 6 then decide (e.addr = []) && decide (e.act = 0) else
  if e.kind = 1 then addrB e.addr && inI e.act 1 4 else
  if e.kind = 3 ∨ e.kind = 4 then addrB e.addr && decide (e.act = 0) else false := by rw [hz]; rfl
 clear hz
 simp [code, Tryz.f84, hr]
 repeat' ((first | refine ifL_cases (fun h => ?_) (fun h => ?_) | refine gI_cases' (fun h => ?_) (fun h => ?_) | refine gI_cases (fun h => ?_) (fun h => ?_) | refine dI_cases' (fun h => ?_) (fun h => ?_) | refine dI_cases (fun h => ?_) (fun h => ?_)) <;> first | replace h := of_decide_eq_true h | replace h := of_decide_eq_false h | skip
          all_goals try simp [hr, q1, q2, q3, q4, q5, hr, *])
 all_goals (clear q1 q2 q3 q4 q5; first | rw [hev] | skip; clear hev)
 all_goals first | grind [inI] | (trace_state; sorry)
 ) Tryz.f84 Tryz.results84)
end Go.Proofs.YtgbfmdihmnpcdaaGreatDoor
namespace Go.Proofs.YtgbfmdihmnpcdaaGreatDoor
open Go Go.Pm Go.Proofs
set_option linter.unusedVariables false
set_option linter.unusedSimpArgs false
end Go.Proofs.YtgbfmdihmnpcdaaGreatDoor
