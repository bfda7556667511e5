/- Texts of plans, by the reference. -/
import Derived.Test.YtgbfmdihmnpcdaaGreatDoorV6
import Derived.Test.YtgbfmdihmnpcdaaGreatDoorV8
namespace Go.Proofs.YtgbfmdihmnpcdaaGreatDoor
open Go Go.Pm Go.Proofs
set_option linter.unusedVariables false
set_option linter.unusedSimpArgs false
set_option maxRecDepth 100000
set_option maxHeartbeats 4000000
def digT (n : Int) : List Int := if n < 0 then 45 :: digN (-n).toNat else digN n.toNat
def quoB : List Int → List Int
 | [] => []
 | c :: l => if c = 34 ∨ c = 92 then 92 :: c :: quoB l else c :: quoB l
def quoT (l : List Int) : List Int := 34 :: quoB l ++ [34]
@[simp] theorem quoB_nil : quoB [] = [] := rfl
def actT (n : Int) : List Int := if n = 0 then [107, 101, 101, 112] else if n = 1 then [99, 114, 101, 97, 116, 101] else if n = 2 then [117, 112, 100, 97, 116, 101] else if n = 3 then [114, 101, 112, 108, 97, 99, 101] else [100, 101, 108, 101, 116, 101]
def keyT (m : Bool) (k : List (List Int)) : List Int := bif m then (k.headD []) ++ [32, 61, 32] else []
mutual
def sayV : Val → List Int
 | .mk kind n s k l => if kind = 0 then [110, 117, 108, 108] else if kind = 1 then (if n = 0 then [102, 97, 108, 115, 101] else [116, 114, 117, 101]) else
  if kind = 2 then digT n else if kind = 3 then quoT s else if kind = 6 then [63] else
  (if kind = 5 then [123] else [91]) ++ sayL (decide (kind = 5)) true k l ++ (if kind = 5 then [125] else [93])
def sayL : Bool → Bool → List (List Int) → List Val → List Int
 | _, _, _, [] => []
 | m, f, k, v :: l => (bif f then [] else [44, 32]) ++ keyT m k ++ sayV v ++ sayL m false k.tail l
end
@[simp] theorem sayL_nil (m f : Bool) (k : List (List Int)) : sayL m f k [] = [] := rfl
end Go.Proofs.YtgbfmdihmnpcdaaGreatDoor
namespace Go.Proofs.YtgbfmdihmnpcdaaGreatDoor
open Go Go.Pm Go.Proofs
set_option linter.unusedVariables false
set_option linter.unusedSimpArgs false
theorem wrap_u64 {a : Int} (h : 0 ≤ a ∧ a < 18446744073709551616) : IntKind.u64.wrap a = a := by
 have : IntKind.u64.wrap a = a % 18446744073709551616 := by first | rfl | simp [IntKind.wrap]
 rw [this]
 omega
end Go.Proofs.YtgbfmdihmnpcdaaGreatDoor
namespace Go.Proofs.YtgbfmdihmnpcdaaGreatDoor
open Go Go.Pm Go.Proofs
set_option linter.unusedVariables false
set_option linter.unusedSimpArgs false
end Go.Proofs.YtgbfmdihmnpcdaaGreatDoor
namespace Go.Proofs.YtgbfmdihmnpcdaaGreatDoor
open Go Go.Pm Go.Proofs
set_option linter.unusedVariables false
set_option linter.unusedSimpArgs false
set_option maxRecDepth 100000
set_option maxHeartbeats 4000000
theorem anyB_at {α : Type} {g : α → Bool} {l : List α} {i : Nat} (h : i < l.length) : anyB g (l.drop i) = (g l[i] || anyB g (l.drop (i + 1))) := by rw [drop_at h]; rfl
@[simp] theorem anyB_nil {α : Type} (g : α → Bool) : anyB g [] = false := rfl
def lineT (a : Act) : List Int := actT a.act ++ [32] ++ a.addr ++ (if a.act = 4 then [] else [32] ++ sayV a.val) ++ [10]
def linesT : List Act → List Int
 | [] => []
 | a :: l => lineT a ++ linesT l
@[simp] theorem linesT_nil : linesT [] = [] := rfl
end Go.Proofs.YtgbfmdihmnpcdaaGreatDoor
namespace Go.Proofs.YtgbfmdihmnpcdaaGreatDoor
open Go Go.Pm Go.Proofs
set_option linter.unusedVariables false
set_option linter.unusedSimpArgs false
end Go.Proofs.YtgbfmdihmnpcdaaGreatDoor
namespace Go.Proofs.YtgbfmdihmnpcdaaGreatDoor
open Go Go.Pm Go.Proofs
set_option linter.unusedVariables false
set_option linter.unusedSimpArgs false
set_option maxRecDepth 100000
set_option maxHeartbeats 4000000
structure Ev where
 kind : Int
 addr : List Int
 act : Int
 val : Val
 deps : List (List Int)
def eP (e : Ev) : List PV := [.sc (.int .i64 e.kind), .sl (nums .u8 e.addr), .sc (.int .i64 e.act), .sc (.int .i64 e.val.kind), .sc (.int .i64 e.val.n), .sl (nums .u8 e.val.s), .sl (rws byP e.val.k), .sl (rws vP e.val.l), .sl (rws byP e.deps)]
structure EOk (e : Ev) : Prop where
 addr : e.addr.length ≤ 1048576
 addrB : byteOk e.addr = true
 vl : VLen e.val
 vb : VBy e.val
 vp : ptV e.val ≤ 1048577
 dl : lenBB e.deps
 db : ∀ x ∈ e.deps, byteOk x = true
mutual
def knB : Val → Bool
 | .mk kind _ _ _ l => decide (kind ≠ 6) && knBs l
def knBs : List Val → Bool
 | [] => true
 | v :: l => knB v && knBs l
end
theorem knBs_any : ∀ l : List Val, knBs l = !anyB (fun x => !knB x) l
 | [] => rfl
 | v :: l => by simp [knBs, anyB, knBs_any l]
theorem knB_eq (v : Val) : knB v = (decide (v.kind ≠ 6) && !anyB (fun x => !knB x) v.l) := by
 cases v; rw [knB, knBs_any]; rfl
theorem p172_nc (b b' : Bool) (l : List Val) (g : Val → Bool) (f : Nat) (hl : l.length ≤ 1048576) (hs : sgOf f = ⟨[], .d, false⟩) (hf : ∀ v ∈ l, phi C0 (lim C0) f [.ag [(iv v.kind), (iv v.n), .pv false (.sl (nums .u8 v.s)), .pv false (.sl (rws byP v.k)), .pv false (.sl (rws vP v.l))]] [] = some ((bv (g v)), [])) : phi C0 (lim C0) 172 [.pv b (.sl (rws vP l)), .pv b' (.cl f [])] [] = some ((iv (fstB g l 0)), []) := call0 Tryz.func172 (by kernel_rfl) ((show ∀ fn : Func, fn.results = #[.tmp 4] → globs fn = [0, 8, 7, 9, 5, 1, 16, 4] → lim C0 172 fn [.c (code Tryz.f172)] ⟨_, _⟩ = _ from fun fn hr hg => by
 simp [code, Tryz.f172, hr, hg]
 refine (loop_to (s0 := ?s1) (fun i => l.length - i) (fun i => [(8, (iv ((i : Nat))))]) (fun i => []) (fun i K => (if 0 ≤ fstB g (l.drop i) i then some ((iv (fstB g (l.drop i) i)), []) else K [(8, (iv l.length))] [])) (fun i => i ≤ l.length) 0 ?hc1 ?h01 ?hs1 ?step1).trans ?r1
 case hc1 => simp; rfl
 case h01 => first | (simp; done) | (simp [*]; done) | exact ⟨by simp, ⟨rfl⟩⟩ | grind | (simp; omega)
 case hs1 => first | (simp; done) | (simp [*]; done)
 case r1 =>
  simp [hg, hr]
  intro h
  have := fstB_end (i := 0) (by omega : ¬ 0 ≤ fstB g l 0)
  omega
 intro k i hi ih
 simp [hg]
 (first | refine ifL_cases (fun h => ?_) (fun h => ?_) | refine gI_cases' (fun h => ?_) (fun h => ?_) | refine gI_cases (fun h => ?_) (fun h => ?_) | refine dI_cases' (fun h => ?_) (fun h => ?_) | refine dI_cases (fun h => ?_) (fun h => ?_)) <;> first | replace h := of_decide_eq_true h | replace h := of_decide_eq_false h | skip
 · have hlt := h
   have q := hf l[i] (List.getElem_mem hlt)
   simp [hg, hlt, q, hs, hr, hg]
   rw [fstB_at hlt]
   (first | refine ifL_cases (fun h => ?_) (fun h => ?_) | refine gI_cases' (fun h => ?_) (fun h => ?_) | refine gI_cases (fun h => ?_) (fun h => ?_) | refine dI_cases' (fun h => ?_) (fun h => ?_) | refine dI_cases (fun h => ?_) (fun h => ?_)) <;> first | replace h := of_decide_eq_true h | replace h := of_decide_eq_false h | skip
   · simp [hg, hr, h]
   · simp [hg, h]
     try simp (disch := omega) only [wrap_id']
     refine (ih.out (i + 1) _ ?_ ?_ ?_).trans ?_
     · omega
     · omega
     · simp [hg]
     · rfl
 · have e : i = l.length := by omega
   subst e
   simp [hg, fstB]
 ) Tryz.f172 Tryz.results172 gl172)
theorem p146_nc (b b' : Bool) (l : List Val) (g : Val → Bool) (f : Nat) (hl : l.length ≤ 1048576) (hs : sgOf f = ⟨[], .d, false⟩) (hf : ∀ v ∈ l, phi C0 (lim C0) f [.ag [(iv v.kind), (iv v.n), .pv false (.sl (nums .u8 v.s)), .pv false (.sl (rws byP v.k)), .pv false (.sl (rws vP v.l))]] [] = some ((bv (g v)), [])) : phi C0 (lim C0) 146 [.pv b (.sl (rws vP l)), .pv b' (.cl f [])] [] = some ((bv (anyB g l)), []) := call0 Tryz.func146 (by kernel_rfl) ((show ∀ fn : Func, fn.results = #[.tmp 4] → lim C0 146 fn [.c (code Tryz.f146)] ⟨_, _⟩ = _ from fun fn hr => by
 have q := p172_nc b b' l g f hl hs hf
 simp [code, Tryz.f146, hr, q, fstB_any]
 ) Tryz.f146 Tryz.results146)
theorem p190 (v : Val) (ih : ∀ b1 b2 b3 : Bool, phi C0 (lim C0) 176 [.ag [(iv v.kind), (iv v.n), .pv b1 (.sl (nums .u8 v.s)), .pv b2 (.sl (rws byP v.k)), .pv b3 (.sl (rws vP v.l))]] [] = some ((bv (knB v)), [])) : phi C0 (lim C0) 190 [.ag [(iv v.kind), (iv v.n), .pv false (.sl (nums .u8 v.s)), .pv false (.sl (rws byP v.k)), .pv false (.sl (rws vP v.l))]] [] = some ((bv (!knB v)), []) := call0 Tryz.func190 (by kernel_rfl) ((show ∀ fn : Func, fn.results = #[.tmp 2] → lim C0 190 fn [.c (code Tryz.f190)] ⟨_, _⟩ = _ from fun fn hr => by
 simp [code, Tryz.f190, hr, ih]
 ) Tryz.f190 Tryz.results190)
theorem p176 (v : Val) (b1 b2 b3 : Bool) (hv : v.l.length ≤ 1048576) (ih0 : ∀ u ∈ v.l, ∀ b1 b2 b3 : Bool, phi C0 (lim C0) 176 [.ag [(iv u.kind), (iv u.n), .pv b1 (.sl (nums .u8 u.s)), .pv b2 (.sl (rws byP u.k)), .pv b3 (.sl (rws vP u.l))]] [] = some ((bv (knB u)), [])) : phi C0 (lim C0) 176 [.ag [(iv v.kind), (iv v.n), .pv b1 (.sl (nums .u8 v.s)), .pv b2 (.sl (rws byP v.k)), .pv b3 (.sl (rws vP v.l))]] [] = some ((bv (knB v)), []) := call0 Tryz.func176 (by kernel_rfl) ((show ∀ fn : Func, fn.results = #[.tmp 2] → lim C0 176 fn [.c (code Tryz.f176)] ⟨_, _⟩ = _ from fun fn hr => by
 have q := fun b b' => p146_nc b b' v.l (fun x => !knB x) 190 hv rfl (fun u hu => p190 u (ih0 u hu))
 rw [knB_eq]
 simp [code, Tryz.f176, hr]
 repeat' ((first | refine ifL_cases (fun h => ?_) (fun h => ?_) | refine gI_cases' (fun h => ?_) (fun h => ?_) | refine gI_cases (fun h => ?_) (fun h => ?_) | refine dI_cases' (fun h => ?_) (fun h => ?_) | refine dI_cases (fun h => ?_) (fun h => ?_)) <;> first | replace h := of_decide_eq_true h | replace h := of_decide_eq_false h | skip
          all_goals try simp [hr, q, hr, *])
 all_goals simp_all [hr]
 ) Tryz.f176 Tryz.results176)
theorem pKnown (v : Val) (hv : VLen v) : ∀ (b1 b2 b3 : Bool), phi C0 (lim C0) 176 [.ag [(iv v.kind), (iv v.n), .pv b1 (.sl (nums .u8 v.s)), .pv b2 (.sl (rws byP v.k)), .pv b3 (.sl (rws vP v.l))]] [] = some ((bv (knB v)), []) := by
 revert hv
 refine Val.ind1 (P := fun v => VLen v → ∀ (b1 b2 b3 : Bool), phi C0 (lim C0) 176 [.ag [(iv v.kind), (iv v.n), .pv b1 (.sl (nums .u8 v.s)), .pv b2 (.sl (rws byP v.k)), .pv b3 (.sl (rws vP v.l))]] [] = some ((bv (knB v)), [])) (fun v ih hv b1 b2 b3 => ?_) v
 exact p176 v b1 b2 b3 hv.here.2.2 fun u hu => ih u hu (hv.sub u hu)
def zeroB (v : Val) : Bool := decide (v.kind = 0) && decide (v.n = 0) && decide (v.s = []) && decide (v.k = []) && decide (v.l = [])
theorem p157 (v : Val) (b1 b2 b3 : Bool) : phi C0 (lim C0) 157 [.ag [(iv v.kind), (iv v.n), .pv b1 (.sl (nums .u8 v.s)), .pv b2 (.sl (rws byP v.k)), .pv b3 (.sl (rws vP v.l))]] [] = some ((bv (zeroB v)), []) := call0 Tryz.func157 (by kernel_rfl) ((show ∀ fn : Func, fn.results = #[.tmp 2] → lim C0 157 fn [.c (code Tryz.f157)] ⟨_, _⟩ = _ from fun fn hr => by
 simp [code, Tryz.f157, hr]
 repeat' ((first | refine ifL_cases (fun h => ?_) (fun h => ?_) | refine gI_cases' (fun h => ?_) (fun h => ?_) | refine gI_cases (fun h => ?_) (fun h => ?_) | refine dI_cases' (fun h => ?_) (fun h => ?_) | refine dI_cases (fun h => ?_) (fun h => ?_)) <;> first | replace h := of_decide_eq_true h | replace h := of_decide_eq_false h | skip
          all_goals try simp [hr, hr, *])
 all_goals simp_all [zeroB, hr]
 ) Tryz.f157 Tryz.results157)
theorem p175 (v : Val) (hv : VLen v) (hb : VBy v) (hp : ptV v ≤ 4611686018427387904) (b1 b2 b3 : Bool) : phi C0 (lim C0) 175 [.ag [(iv v.kind), (iv v.n), .pv b1 (.sl (nums .u8 v.s)), .pv b2 (.sl (rws byP v.k)), .pv b3 (.sl (rws vP v.l))]] [] = some ((bv (decide (v.kind = 5) && valB v)), []) := call0 Tryz.func175 (by kernel_rfl) ((show ∀ fn : Func, fn.results = #[.tmp 2] → lim C0 175 fn [.c (code Tryz.f175)] ⟨_, _⟩ = _ from fun fn hr => by
 have q1 := p69 v hv hb hp
 by_cases k5 : v.kind = 5
 · simp only [k5] at q1
   simp [code, Tryz.f175, hr, k5, q1]
 · simp [code, Tryz.f175, hr, k5]
 ) Tryz.f175 Tryz.results175)
def kmapB (v : Val) : Bool := decide (v.kind = 5) && valB v && knB v
theorem p153 (v : Val) (hv : VLen v) (hb : VBy v) (hp : ptV v ≤ 4611686018427387904) (b1 b2 b3 : Bool) : phi C0 (lim C0) 153 [.ag [(iv v.kind), (iv v.n), .pv b1 (.sl (nums .u8 v.s)), .pv b2 (.sl (rws byP v.k)), .pv b3 (.sl (rws vP v.l))]] [] = some ((bv (kmapB v)), []) := call0 Tryz.func153 (by kernel_rfl) ((show ∀ fn : Func, fn.results = #[.tmp 2] → lim C0 153 fn [.c (code Tryz.f153)] ⟨_, _⟩ = _ from fun fn hr => by
 have q1 := p175 v hv hb hp
 have q2 := pKnown v hv
 simp [code, Tryz.f153, hr, q1]
 repeat' ((first | refine ifL_cases (fun h => ?_) (fun h => ?_) | refine gI_cases' (fun h => ?_) (fun h => ?_) | refine gI_cases (fun h => ?_) (fun h => ?_) | refine dI_cases' (fun h => ?_) (fun h => ?_) | refine dI_cases (fun h => ?_) (fun h => ?_)) <;> first | replace h := of_decide_eq_true h | replace h := of_decide_eq_false h | skip
          all_goals try simp [hr, q1, q2, hr, *])
 all_goals simp_all [kmapB, hr]
 ) Tryz.f153 Tryz.results153)
def ascA : Option (List Int) → List (List Int) → Bool
 | _, [] => true
 | none, k :: l => addrB k && ascA (some k) l
 | some q, k :: l => addrB k && decide (cmpB q k < 0) && ascA (some k) l
theorem ascA_at {k : List (List Int)} {i : Nat} (h : i < k.length) : ascA (if i = 0 then none else k[i-1]?) (k.drop i) = (addrB k[i] && (if hi : i = 0 then true else decide (cmpB (k[i-1]'(by omega)) k[i] < 0)) && ascA (some k[i]) (k.drop (i + 1))) := by
 rw [drop_at h]
 by_cases hi : i = 0
 · subst hi; simp [ascA]
 · rw [if_neg hi, dif_neg hi, List.getElem?_eq_getElem (by omega)]
   rfl
def adrsB (l : List (List Int)) : Bool := ascA none l && decide (l.length ≤ 8)
theorem p154 (b : Bool) (l : List (List Int)) (hl : lenBB l) (hk : ∀ x ∈ l, byteOk x = true) : phi C0 (lim C0) 154 [.pv b (.sl (rws byP l))] [] = some ((bv (adrsB l)), []) := call0 Tryz.func154 (by kernel_rfl) ((show ∀ fn : Func, fn.results = #[.tmp 2] → globs fn = [0, 7, 6, 8, 5, 4, 3, 28, 2] → lim C0 154 fn [.c (code Tryz.f154)] ⟨_, _⟩ = _ from fun fn hr hg => by
 obtain ⟨hl, hb⟩ := hl
 simp [code, Tryz.f154, hr, hg]
 refine (loop_to (s0 := ?s2) (fun i => l.length - i) (fun i => [(7, (iv ((i : Nat))))]) (fun i => []) (fun i K => (if ascA (if i = 0 then none else l[i-1]?) (l.drop i) then K [(7, (iv l.length))] [] else some ((bv false), []))) (fun i => i ≤ l.length) 0 ?hc2 ?h02 ?hs2 ?step2).trans ?r2
 case hc2 => simp; rfl
 case h02 => first | (simp; done) | (simp [*]; done) | exact ⟨by simp, ⟨rfl⟩⟩ | grind | (simp; omega)
 case hs2 => first | (simp; done) | (simp [*]; done)
 case r2 =>
  by_cases ha : ascA none l = true
  · simp [hg, ha, hr, adrsB]
    omega
  · simp [hg, hr, ha, adrsB]
 intro k i hi ih
 simp [hg]
 (first | refine ifL_cases (fun h => ?_) (fun h => ?_) | refine gI_cases' (fun h => ?_) (fun h => ?_) | refine gI_cases (fun h => ?_) (fun h => ?_) | refine dI_cases' (fun h => ?_) (fun h => ?_) | refine dI_cases (fun h => ?_) (fun h => ?_)) <;> first | replace h := of_decide_eq_true h | replace h := of_decide_eq_false h | skip
 · have hlt : i < l.length := h
   have q4 := p68 l[i] (hk _ (List.getElem_mem hlt)) (hb _ (List.getElem_mem hlt))
   have ea := ascA_at hlt
   have eg : l[i]? = some l[i] := List.getElem?_eq_getElem hlt
   by_cases hi0 : i = 0
   · subst hi0
     simp at ea
     simp [hr, hg, hlt, byP, q4, ea]
     repeat' ((first | refine ifL_cases (fun h => ?_) (fun h => ?_) | refine gI_cases' (fun h => ?_) (fun h => ?_) | refine gI_cases (fun h => ?_) (fun h => ?_) | refine dI_cases' (fun h => ?_) (fun h => ?_) | refine dI_cases (fun h => ?_) (fun h => ?_)) <;> first | replace h := of_decide_eq_true h | replace h := of_decide_eq_false h | skip
              all_goals try simp [hr, hg, hlt, byP, hr, *])
     all_goals try simp [hg, hr]
     refine (ih.out 1 _ ?_ ?_ ?_).trans ?_
     · omega
     · omega
     · simp [hg, *]
     · simp [hg, List.getElem?_eq_getElem hlt]
   · obtain ⟨j, hj⟩ : ∃ j, j + 1 = i := ⟨i - 1, by omega⟩
     have hij : i - 1 = j := by omega
     have hlj : j < l.length := by omega
     have q5 := fun b b' => p145 b b' l[j] l[i] (hk _ (List.getElem_mem _)) (hk _ (List.getElem_mem _))
     have hw : IntKind.i64.wrap ((i : Int) - 1) = (j : Int) := by rw [show (i : Int) - 1 = j by omega]; exact wrap_id' (by omega)
     simp only [hij, hi0, if_false, dite_false, List.getElem?_eq_getElem hlj] at ea
     have e3 : 0 < i := by omega
     have hw2 : IntKind.i64.wrap ((i : Int) + 1) = i + 1 := wrap_id' (by omega)
     simp only [hi0, if_false, hij, List.getElem?_eq_getElem hlj]
     simp [hr, hg, hlt, byP, q4, ea]
     repeat' ((first | refine ifL_cases (fun h => ?_) (fun h => ?_) | refine gI_cases' (fun h => ?_) (fun h => ?_) | refine gI_cases (fun h => ?_) (fun h => ?_) | refine dI_cases' (fun h => ?_) (fun h => ?_) | refine dI_cases (fun h => ?_) (fun h => ?_)) <;> first | replace h := of_decide_eq_true h | replace h := of_decide_eq_false h | skip
              all_goals try simp [hr, hg, hlt, byP, hr, hlj, q5, hw, e3, *])
     all_goals try simp [hg, hr]
     · intro h9; exfalso; omega
     refine (ih.out (i + 1) _ ?_ ?_ ?_).trans ?_
     · omega
     · omega
     · simp [hg, *]
     · have h10 : cmpB l[j] l[i] < 0 := by omega
       simp [hg, List.getElem?_eq_getElem hlt, h10]
 · have e : i = l.length := by omega
   subst e
   simp [hg, ascA]
 ) Tryz.f154 Tryz.results154 gl154)
def evB (e : Ev) : Bool := if e.kind = 2 then addrB e.addr && decide (e.act = 0) && kmapB e.val && adrsB e.deps else
 if zeroB e.val = false ∨ e.deps ≠ [] then false else
 if e.kind = 0 ∨ e.kind = 5 ∨ e.kind = 6 then decide (e.addr = []) && decide (e.act = 0) else
 if e.kind = 1 then addrB e.addr && inI e.act 1 4 else
 if e.kind = 3 ∨ e.kind = 4 then addrB e.addr && decide (e.act = 0) else false
theorem p128 (e : Ev) (he : EOk e) : phi C0 (lim C0) 128 [.ag [(iv e.kind), .pv false (.sl (nums .u8 e.addr)), (iv e.act), (iv e.val.kind), (iv e.val.n), .pv false (.sl (nums .u8 e.val.s)), .pv false (.sl (rws byP e.val.k)), .pv false (.sl (rws vP e.val.l)), .pv false (.sl (rws byP e.deps))]] [] = some ((bv (evB e)), []) := call0 Tryz.func128 (by kernel_rfl) ((show ∀ fn : Func, fn.results = #[.tmp 2] → lim C0 128 fn [.c (code Tryz.f128)] ⟨_, _⟩ = _ from fun fn hr => by
 have q1 := p68 e.addr he.addrB he.addr
 have q2 := p153 e.val he.vl he.vb (by have := he.vp; omega)
 have q3 := fun b => p154 b e.deps he.dl he.db
 have q4 := p157 e.val
 have q5 := p66 e.act 1 4
 simp [code, Tryz.f128, hr]
 repeat' ((first | refine ifL_cases (fun h => ?_) (fun h => ?_) | refine gI_cases' (fun h => ?_) (fun h => ?_) | refine gI_cases (fun h => ?_) (fun h => ?_) | refine dI_cases' (fun h => ?_) (fun h => ?_) | refine dI_cases (fun h => ?_) (fun h => ?_)) <;> first | replace h := of_decide_eq_true h | replace h := of_decide_eq_false h | skip
          all_goals try simp [hr, q1, q2, q3, q4, q5, hr, *])
 all_goals unfold evB
 all_goals try (simp [*]; done)
 all_goals try (simp_all; done)
 all_goals (repeat' split) <;> first | rfl | (simp_all; done) | omega | (simp_all; omega)
 ) Tryz.f128 Tryz.results128)
def knT (n : Int) : List Int := if n = 0 then [98, 101, 103, 105, 110] else if n = 1 then [105, 110, 116, 101, 110, 116] else if n = 2 then [100, 111, 110, 101] else if n = 3 then [103, 111, 110, 101] else if n = 4 then [102, 97, 105, 108] else if n = 5 then [101, 110, 100] else [114, 101, 115, 101, 116]
def evT (e : Ev) : List Int := knT e.kind ++ (if e.addr = [] then [] else 32 :: e.addr) ++ (if e.kind = 1 then 32 :: actT e.act else if e.kind = 2 then 32 :: sayV e.val else [])
theorem addrB_ne {l : List Int} (h : addrB l = true) : l ≠ [] := by
 rintro rfl
 revert h
 decide
theorem evB_kind {e : Ev} (h : evB e = true) : (e.kind = 0 ∨ e.kind = 1 ∨ e.kind = 2 ∨ e.kind = 3 ∨ e.kind = 4 ∨ e.kind = 5 ∨ e.kind = 6) ∧ (e.addr = [] ↔ e.kind = 0 ∨ e.kind = 5 ∨ e.kind = 6) ∧ (e.kind = 1 → 1 ≤ e.act ∧ e.act ≤ 4) ∧ (e.kind = 2 → valB e.val = true) := by
 unfold evB at h
 split at h
 · rename_i k
   simp only [Bool.and_eq_true] at h
   have := addrB_ne h.1.1.1
   have h2 := h.1.2
   simp only [kmapB, Bool.and_eq_true] at h2
   exact ⟨by omega, ⟨fun h => absurd h this, fun h => by omega⟩, fun h => by omega, fun _ => h2.1.2⟩
 split at h
 · cases h
 split at h
 · rename_i k
   simp at h
   exact ⟨by omega, ⟨fun _ => k, fun _ => h.1⟩, fun h => by omega, fun h => by omega⟩
 split at h
 · rename_i k
   simp [inI] at h
   have := addrB_ne h.1
   exact ⟨by omega, ⟨fun h => absurd h this, fun h => by omega⟩, fun _ => by omega, fun h => by omega⟩
 split at h
 · rename_i k
   simp at h
   have := addrB_ne h.1
   exact ⟨by omega, ⟨fun h => absurd h this, fun h => by omega⟩, fun h => by omega, fun h => by omega⟩
 · cases h
end Go.Proofs.YtgbfmdihmnpcdaaGreatDoor
