/- Events, by the program: which ones are ok; their texts. -/
import Derived.Test.YtgkhojgmpojodaaGreatDoorV15
namespace Go.Proofs.YtgkhojgmpojodaaGreatDoor
open Go Go.Pm Go.Proofs
set_option linter.unusedVariables false
set_option linter.unusedSimpArgs false
set_option maxRecDepth 100000
set_option maxHeartbeats 4000000
/-- An event. -/
structure Ev where
  kind : Int
  addr : List Int
  act : Int
  val : Val
  deps : List (List Int)
def eP (e : Ev) : List PV := [.sc (.int .i64 e.kind), .sl (nums .u8 e.addr), .sc (.int .i64 e.act), .sc (.int .i64 e.val.kind), .sc (.int .i64 e.val.n), .sl (nums .u8 e.val.s), .sl (rws byP e.val.k), .sl (rws vP e.val.l), .sl (rws byP e.deps)]
/-- An event whose lists are no longer than that, whose bytes are bytes. -/
structure EOk (e : Ev) : Prop where
  addr : e.addr.length ≤ 1048576
  addrB : byteOk e.addr = true
  vl : VLen e.val
  vb : VBy e.val
  vp : ptV e.val ≤ 1048577
  dl : lenBB e.deps
  db : ∀ x ∈ e.deps, byteOk x = true
mutual
/-- Is all of it known? -/
def knB : Val → Bool
  | .mk kind _ _ _ l => decide (kind ≠ 6) && knBs l
def knBs : List Val → Bool
  | [] => true
  | v :: l => knB v && knBs l
end
theorem knBs_any : ∀ l : List Val, knBs l = !anyB (fun x => !knB x) l
  | [] => rfl
  | v :: l => by simp [knBs, anyB, knBs_any l]
theorem knB_eq (v : Val) : knB v = (decide (v.kind ≠ 6) && !anyB (fun x => !knB x) v.l) := by
  cases v; rw [knB, knBs_any]; rfl
theorem p250_nc (b b' : Bool) (l : List Val) (g : Val → Bool) (f : Nat) (hl : l.length ≤ 1048576) (hs : sgOf f = ⟨[], .d, false⟩) (hf : ∀ v ∈ l, phi C0 (lim C0) f [.ag [(.pv false (.sc (.int .i64 v.kind))), (.pv false (.sc (.int .i64 v.n))), .pv false (.sl (nums .u8 v.s)), .pv false (.sl (rws byP v.k)), .pv false (.sl (rws vP v.l))]] [] = some ((.pv false (.sc (.bool (g v)))), [])) : phi C0 (lim C0) 250 [.pv b (.sl (rws vP l)), .pv b' (.cl f [])] [] = some ((.pv false (.sc (.int .i64 (fstB g l 0)))), []) := call0 Tryz.func250 (by kernel_rfl) ((show ∀ fn : Func, fn.results = #[.tmp 4] → globs fn = [0, 8, 7, 9, 5, 1, 16, 4] → lim C0 250 fn [.c (code Tryz.f250)] ⟨_, _⟩ = _ from fun fn hr hg => by
  simp [code, Tryz.f250, hr, hg]
  refine (loop_to (s0 := ?s1) (fun i => l.length - i) (fun i => [(8, (.pv false (.sc (.int .i64 ((i : Nat))))))]) (fun i => []) (fun i K => (if 0 ≤ fstB g (l.drop i) i then some ((.pv false (.sc (.int .i64 (fstB g (l.drop i) i)))), []) else K [(8, (.pv false (.sc (.int .i64 l.length))))] [])) (fun i => i ≤ l.length) 0 ?hc1 ?h01 ?hs1 ?step1).trans ?r1
  case hc1 => simp; rfl
  case h01 => first | (simp; done) | (simp [*]; done) | exact ⟨by simp, ⟨rfl⟩⟩ | grind | (simp; omega)
  case hs1 => first | (simp; done) | (simp [*]; done)
  case r1 =>
    simp [hg, hr]
    intro h
    have := fstB_end (i := 0) (by omega : ¬ 0 ≤ fstB g l 0)
    omega
  intro k i hi ih
  simp [hg]
  (first | refine ifL_cases (fun h => ?_) (fun h => ?_) | refine gI_cases' (fun h => ?_) (fun h => ?_) | refine gI_cases (fun h => ?_) (fun h => ?_) | refine dI_cases' (fun h => ?_) (fun h => ?_) | refine dI_cases (fun h => ?_) (fun h => ?_)) <;> first | replace h := of_decide_eq_true h | replace h := of_decide_eq_false h | skip
  · have hlt := h
    have q := hf l[i] (List.getElem_mem hlt)
    simp [hg, hlt, q, hs, hr, hg]
    rw [fstB_at hlt]
    (first | refine ifL_cases (fun h => ?_) (fun h => ?_) | refine gI_cases' (fun h => ?_) (fun h => ?_) | refine gI_cases (fun h => ?_) (fun h => ?_) | refine dI_cases' (fun h => ?_) (fun h => ?_) | refine dI_cases (fun h => ?_) (fun h => ?_)) <;> first | replace h := of_decide_eq_true h | replace h := of_decide_eq_false h | skip
    · simp [hg, hr, h]
    · simp [hg, h]
      try simp (disch := omega) only [wrap_id']
      refine (ih.out (i + 1) _ ?_ ?_ ?_).trans ?_
      · omega
      · omega
      · simp [hg]
      · rfl
  · have e : i = l.length := by omega
    subst e
    simp [hg, fstB]
  ) Tryz.f250 Tryz.results250 gl250)
theorem p227_nc (b b' : Bool) (l : List Val) (g : Val → Bool) (f : Nat) (hl : l.length ≤ 1048576) (hs : sgOf f = ⟨[], .d, false⟩) (hf : ∀ v ∈ l, phi C0 (lim C0) f [.ag [(.pv false (.sc (.int .i64 v.kind))), (.pv false (.sc (.int .i64 v.n))), .pv false (.sl (nums .u8 v.s)), .pv false (.sl (rws byP v.k)), .pv false (.sl (rws vP v.l))]] [] = some ((.pv false (.sc (.bool (g v)))), [])) : phi C0 (lim C0) 227 [.pv b (.sl (rws vP l)), .pv b' (.cl f [])] [] = some ((.pv false (.sc (.bool (anyB g l)))), []) := call0 Tryz.func227 (by kernel_rfl) ((show ∀ fn : Func, fn.results = #[.tmp 4] → lim C0 227 fn [.c (code Tryz.f227)] ⟨_, _⟩ = _ from fun fn hr => by
  have q := p250_nc b b' l g f hl hs hf
  simp [code, Tryz.f227, hr, q, fstB_any]
  ) Tryz.f227 Tryz.results227)
theorem p233 (v : Val) (ih : ∀ b1 b2 b3 : Bool, phi C0 (lim C0) 200 [.ag [(.pv false (.sc (.int .i64 v.kind))), (.pv false (.sc (.int .i64 v.n))), .pv b1 (.sl (nums .u8 v.s)), .pv b2 (.sl (rws byP v.k)), .pv b3 (.sl (rws vP v.l))]] [] = some ((.pv false (.sc (.bool (knB v)))), [])) : phi C0 (lim C0) 233 [.ag [(.pv false (.sc (.int .i64 v.kind))), (.pv false (.sc (.int .i64 v.n))), .pv false (.sl (nums .u8 v.s)), .pv false (.sl (rws byP v.k)), .pv false (.sl (rws vP v.l))]] [] = some ((.pv false (.sc (.bool (!knB v)))), []) := call0 Tryz.func233 (by kernel_rfl) ((show ∀ fn : Func, fn.results = #[.tmp 2] → lim C0 233 fn [.c (code Tryz.f233)] ⟨_, _⟩ = _ from fun fn hr => by
  simp [code, Tryz.f233, hr, ih]
  ) Tryz.f233 Tryz.results233)
theorem p200 (v : Val) (b1 b2 b3 : Bool) (hv : v.l.length ≤ 1048576) (ih0 : ∀ u ∈ v.l, ∀ b1 b2 b3 : Bool, phi C0 (lim C0) 200 [.ag [(.pv false (.sc (.int .i64 u.kind))), (.pv false (.sc (.int .i64 u.n))), .pv b1 (.sl (nums .u8 u.s)), .pv b2 (.sl (rws byP u.k)), .pv b3 (.sl (rws vP u.l))]] [] = some ((.pv false (.sc (.bool (knB u)))), [])) : phi C0 (lim C0) 200 [.ag [(.pv false (.sc (.int .i64 v.kind))), (.pv false (.sc (.int .i64 v.n))), .pv b1 (.sl (nums .u8 v.s)), .pv b2 (.sl (rws byP v.k)), .pv b3 (.sl (rws vP v.l))]] [] = some ((.pv false (.sc (.bool (knB v)))), []) := call0 Tryz.func200 (by kernel_rfl) ((show ∀ fn : Func, fn.results = #[.tmp 2] → lim C0 200 fn [.c (code Tryz.f200)] ⟨_, _⟩ = _ from fun fn hr => by
  have q := fun b b' => p227_nc b b' v.l (fun x => !knB x) 233 hv rfl (fun u hu => p233 u (ih0 u hu))
  rw [knB_eq]
  simp [code, Tryz.f200, hr]
  repeat' ((first | refine ifL_cases (fun h => ?_) (fun h => ?_) | refine gI_cases' (fun h => ?_) (fun h => ?_) | refine gI_cases (fun h => ?_) (fun h => ?_) | refine dI_cases' (fun h => ?_) (fun h => ?_) | refine dI_cases (fun h => ?_) (fun h => ?_)) <;> first | replace h := of_decide_eq_true h | replace h := of_decide_eq_false h | skip
           all_goals try simp [hr, q, hr, *])
  all_goals simp_all [hr]
  ) Tryz.f200 Tryz.results200)
theorem pKnown (v : Val) (hv : VLen v) : ∀ (b1 b2 b3 : Bool), phi C0 (lim C0) 200 [.ag [(.pv false (.sc (.int .i64 v.kind))), (.pv false (.sc (.int .i64 v.n))), .pv b1 (.sl (nums .u8 v.s)), .pv b2 (.sl (rws byP v.k)), .pv b3 (.sl (rws vP v.l))]] [] = some ((.pv false (.sc (.bool (knB v)))), []) := by
  revert hv
  refine Val.ind1 (P := fun v => VLen v → ∀ (b1 b2 b3 : Bool), phi C0 (lim C0) 200 [.ag [(.pv false (.sc (.int .i64 v.kind))), (.pv false (.sc (.int .i64 v.n))), .pv b1 (.sl (nums .u8 v.s)), .pv b2 (.sl (rws byP v.k)), .pv b3 (.sl (rws vP v.l))]] [] = some ((.pv false (.sc (.bool (knB v)))), [])) (fun v ih hv b1 b2 b3 => ?_) v
  exact p200 v b1 b2 b3 hv.here.2.2 fun u hu => ih u hu (hv.sub u hu)
def zeroB (v : Val) : Bool := decide (v.kind = 0) && decide (v.n = 0) && decide (v.s = []) && decide (v.k = []) && decide (v.l = [])
theorem p141 (v : Val) (b1 b2 b3 : Bool) : phi C0 (lim C0) 141 [.ag [(.pv false (.sc (.int .i64 v.kind))), (.pv false (.sc (.int .i64 v.n))), .pv b1 (.sl (nums .u8 v.s)), .pv b2 (.sl (rws byP v.k)), .pv b3 (.sl (rws vP v.l))]] [] = some ((.pv false (.sc (.bool (zeroB v)))), []) := call0 Tryz.func141 (by kernel_rfl) ((show ∀ fn : Func, fn.results = #[.tmp 2] → lim C0 141 fn [.c (code Tryz.f141)] ⟨_, _⟩ = _ from fun fn hr => by
  simp [code, Tryz.f141, hr]
  repeat' ((first | refine ifL_cases (fun h => ?_) (fun h => ?_) | refine gI_cases' (fun h => ?_) (fun h => ?_) | refine gI_cases (fun h => ?_) (fun h => ?_) | refine dI_cases' (fun h => ?_) (fun h => ?_) | refine dI_cases (fun h => ?_) (fun h => ?_)) <;> first | replace h := of_decide_eq_true h | replace h := of_decide_eq_false h | skip
           all_goals try simp [hr, hr, *])
  all_goals simp_all [zeroB, hr]
  ) Tryz.f141 Tryz.results141)
theorem p199 (v : Val) (hv : VLen v) (hb : VBy v) (hp : ptV v ≤ 4611686018427387904) (b1 b2 b3 : Bool) : phi C0 (lim C0) 199 [.ag [(.pv false (.sc (.int .i64 v.kind))), (.pv false (.sc (.int .i64 v.n))), .pv b1 (.sl (nums .u8 v.s)), .pv b2 (.sl (rws byP v.k)), .pv b3 (.sl (rws vP v.l))]] [] = some ((.pv false (.sc (.bool (decide (v.kind = 5) && valB v)))), []) := call0 Tryz.func199 (by kernel_rfl) ((show ∀ fn : Func, fn.results = #[.tmp 2] → lim C0 199 fn [.c (code Tryz.f199)] ⟨_, _⟩ = _ from fun fn hr => by
  have q1 := p132 v hv hb hp
  by_cases k5 : v.kind = 5
  · simp only [k5] at q1
    simp [code, Tryz.f199, hr, k5, q1]
  · simp [code, Tryz.f199, hr, k5]
  ) Tryz.f199 Tryz.results199)
def kmapB (v : Val) : Bool := decide (v.kind = 5) && valB v && knB v
theorem p139 (v : Val) (hv : VLen v) (hb : VBy v) (hp : ptV v ≤ 4611686018427387904) (b1 b2 b3 : Bool) : phi C0 (lim C0) 139 [.ag [(.pv false (.sc (.int .i64 v.kind))), (.pv false (.sc (.int .i64 v.n))), .pv b1 (.sl (nums .u8 v.s)), .pv b2 (.sl (rws byP v.k)), .pv b3 (.sl (rws vP v.l))]] [] = some ((.pv false (.sc (.bool (kmapB v)))), []) := call0 Tryz.func139 (by kernel_rfl) ((show ∀ fn : Func, fn.results = #[.tmp 2] → lim C0 139 fn [.c (code Tryz.f139)] ⟨_, _⟩ = _ from fun fn hr => by
  have q1 := p199 v hv hb hp
  have q2 := pKnown v hv
  simp [code, Tryz.f139, hr, q1]
  repeat' ((first | refine ifL_cases (fun h => ?_) (fun h => ?_) | refine gI_cases' (fun h => ?_) (fun h => ?_) | refine gI_cases (fun h => ?_) (fun h => ?_) | refine dI_cases' (fun h => ?_) (fun h => ?_) | refine dI_cases (fun h => ?_) (fun h => ?_)) <;> first | replace h := of_decide_eq_true h | replace h := of_decide_eq_false h | skip
           all_goals try simp [hr, q1, q2, hr, *])
  all_goals simp_all [kmapB, hr]
  ) Tryz.f139 Tryz.results139)
/-- Addresses that ascend. -/
def ascA : Option (List Int) → List (List Int) → Bool
  | _, [] => true
  | none, k :: l => addrB k && ascA (some k) l
  | some q, k :: l => addrB k && decide (cmpB q k < 0) && ascA (some k) l
theorem ascA_at {k : List (List Int)} {i : Nat} (h : i < k.length) : ascA (if i = 0 then none else k[i-1]?) (k.drop i) = (addrB k[i] && (if hi : i = 0 then true else decide (cmpB (k[i-1]'(by omega)) k[i] < 0)) && ascA (some k[i]) (k.drop (i + 1))) := by
  rw [drop_at h]
  by_cases hi : i = 0
  · subst hi; simp [ascA]
  · rw [if_neg hi, dif_neg hi, List.getElem?_eq_getElem (by omega)]
    rfl
def adrsB (l : List (List Int)) : Bool := ascA none l && decide (l.length ≤ 8)
theorem p140 (b : Bool) (l : List (List Int)) (hl : lenBB l) (hk : ∀ x ∈ l, byteOk x = true) : phi C0 (lim C0) 140 [.pv b (.sl (rws byP l))] [] = some ((.pv false (.sc (.bool (adrsB l)))), []) := call0 Tryz.func140 (by kernel_rfl) ((show ∀ fn : Func, fn.results = #[.tmp 2] → globs fn = [0, 7, 6, 8, 5, 4, 3, 28, 2] → lim C0 140 fn [.c (code Tryz.f140)] ⟨_, _⟩ = _ from fun fn hr hg => by
  obtain ⟨hl, hb⟩ := hl
  simp [code, Tryz.f140, hr, hg]
  refine (loop_to (s0 := ?s2) (fun i => l.length - i) (fun i => [(7, (.pv false (.sc (.int .i64 ((i : Nat))))))]) (fun i => []) (fun i K => (if ascA (if i = 0 then none else l[i-1]?) (l.drop i) then K [(7, (.pv false (.sc (.int .i64 l.length))))] [] else some ((.pv false (.sc (.bool false))), []))) (fun i => i ≤ l.length) 0 ?hc2 ?h02 ?hs2 ?step2).trans ?r2
  case hc2 => simp; rfl
  case h02 => first | (simp; done) | (simp [*]; done) | exact ⟨by simp, ⟨rfl⟩⟩ | grind | (simp; omega)
  case hs2 => first | (simp; done) | (simp [*]; done)
  case r2 =>
    by_cases ha : ascA none l = true
    · simp [hg, ha, hr, adrsB]
      omega
    · simp [hg, hr, ha, adrsB]
  intro k i hi ih
  simp [hg]
  (first | refine ifL_cases (fun h => ?_) (fun h => ?_) | refine gI_cases' (fun h => ?_) (fun h => ?_) | refine gI_cases (fun h => ?_) (fun h => ?_) | refine dI_cases' (fun h => ?_) (fun h => ?_) | refine dI_cases (fun h => ?_) (fun h => ?_)) <;> first | replace h := of_decide_eq_true h | replace h := of_decide_eq_false h | skip
  · have hlt : i < l.length := h
    have q4 := p131 l[i] (hk _ (List.getElem_mem hlt)) (hb _ (List.getElem_mem hlt))
    have ea := ascA_at hlt
    have eg : l[i]? = some l[i] := List.getElem?_eq_getElem hlt
    by_cases hi0 : i = 0
    · subst hi0
      simp at ea
      simp [hr, hg, hlt, byP, q4, ea]
      repeat' ((first | refine ifL_cases (fun h => ?_) (fun h => ?_) | refine gI_cases' (fun h => ?_) (fun h => ?_) | refine gI_cases (fun h => ?_) (fun h => ?_) | refine dI_cases' (fun h => ?_) (fun h => ?_) | refine dI_cases (fun h => ?_) (fun h => ?_)) <;> first | replace h := of_decide_eq_true h | replace h := of_decide_eq_false h | skip
               all_goals try simp [hr, hg, hlt, byP, hr, *])
      all_goals try simp [hg, hr]
      refine (ih.out 1 _ ?_ ?_ ?_).trans ?_
      · omega
      · omega
      · simp [hg, *]
      · simp [hg, List.getElem?_eq_getElem hlt]
    · obtain ⟨j, hj⟩ : ∃ j, j + 1 = i := ⟨i - 1, by omega⟩
      have hij : i - 1 = j := by omega
      have hlj : j < l.length := by omega
      have q5 := fun b b' => p147 b b' l[j] l[i] (hk _ (List.getElem_mem _)) (hk _ (List.getElem_mem _))
      have hw : IntKind.i64.wrap ((i : Int) - 1) = (j : Int) := by rw [show (i : Int) - 1 = j by omega]; exact wrap_id' (by omega)
      simp only [hij, hi0, if_false, dite_false, List.getElem?_eq_getElem hlj] at ea
      have e3 : 0 < i := by omega
      have hw2 : IntKind.i64.wrap ((i : Int) + 1) = i + 1 := wrap_id' (by omega)
      simp only [hi0, if_false, hij, List.getElem?_eq_getElem hlj]
      simp [hr, hg, hlt, byP, q4, ea]
      repeat' ((first | refine ifL_cases (fun h => ?_) (fun h => ?_) | refine gI_cases' (fun h => ?_) (fun h => ?_) | refine gI_cases (fun h => ?_) (fun h => ?_) | refine dI_cases' (fun h => ?_) (fun h => ?_) | refine dI_cases (fun h => ?_) (fun h => ?_)) <;> first | replace h := of_decide_eq_true h | replace h := of_decide_eq_false h | skip
               all_goals try simp [hr, hg, hlt, byP, hr, hlj, q5, hw, e3, *])
      all_goals try simp [hg, hr]
      · intro h9; exfalso; omega
      refine (ih.out (i + 1) _ ?_ ?_ ?_).trans ?_
      · omega
      · omega
      · simp [hg, *]
      · have h10 : cmpB l[j] l[i] < 0 := by omega
        simp [hg, List.getElem?_eq_getElem hlt, h10]
  · have e : i = l.length := by omega
    subst e
    simp [hg, ascA]
  ) Tryz.f140 Tryz.results140 gl140)
/-- Is the event ok? -/
def evB (e : Ev) : Bool := if e.kind = 2 then addrB e.addr && decide (e.act = 0) && kmapB e.val && adrsB e.deps else
  if zeroB e.val = false ∨ e.deps ≠ [] then false else
  if e.kind = 0 ∨ e.kind = 5 ∨ e.kind = 6 then decide (e.addr = []) && decide (e.act = 0) else
  if e.kind = 1 then addrB e.addr && inI e.act 1 4 else
  if e.kind = 3 ∨ e.kind = 4 then addrB e.addr && decide (e.act = 0) else false
theorem p73 (e : Ev) (he : EOk e) : phi C0 (lim C0) 73 [.ag [(.pv false (.sc (.int .i64 e.kind))), .pv false (.sl (nums .u8 e.addr)), (.pv false (.sc (.int .i64 e.act))), (.pv false (.sc (.int .i64 e.val.kind))), (.pv false (.sc (.int .i64 e.val.n))), .pv false (.sl (nums .u8 e.val.s)), .pv false (.sl (rws byP e.val.k)), .pv false (.sl (rws vP e.val.l)), .pv false (.sl (rws byP e.deps))]] [] = some ((.pv false (.sc (.bool (evB e)))), []) := call0 Tryz.func73 (by kernel_rfl) ((show ∀ fn : Func, fn.results = #[.tmp 2] → lim C0 73 fn [.c (code Tryz.f73)] ⟨_, _⟩ = _ from fun fn hr => by
  have q1 := p131 e.addr he.addrB he.addr
  have q2 := p139 e.val he.vl he.vb (by have := he.vp; omega)
  have q3 := fun b => p140 b e.deps he.dl he.db
  have q4 := p141 e.val
  have q5 := p129 e.act 1 4
  simp [code, Tryz.f73, hr]
  repeat' ((first | refine ifL_cases (fun h => ?_) (fun h => ?_) | refine gI_cases' (fun h => ?_) (fun h => ?_) | refine gI_cases (fun h => ?_) (fun h => ?_) | refine dI_cases' (fun h => ?_) (fun h => ?_) | refine dI_cases (fun h => ?_) (fun h => ?_)) <;> first | replace h := of_decide_eq_true h | replace h := of_decide_eq_false h | skip
           all_goals try simp [hr, q1, q2, q3, q4, q5, hr, *])
  all_goals unfold evB
  all_goals try (simp [*]; done)
  all_goals try (simp_all; done)
  all_goals (repeat' split) <;> first | rfl | (simp_all; done) | omega | (simp_all; omega)
  ) Tryz.f73 Tryz.results73)
def knT (n : Int) : List Int := if n = 0 then [98, 101, 103, 105, 110] else if n = 1 then [105, 110, 116, 101, 110, 116] else if n = 2 then [100, 111, 110, 101] else if n = 3 then [103, 111, 110, 101] else if n = 4 then [102, 97, 105, 108] else if n = 5 then [101, 110, 100] else [114, 101, 115, 101, 116]
def evT (e : Ev) : List Int := knT e.kind ++ (if e.addr = [] then [] else 32 :: e.addr) ++ (if e.kind = 1 then 32 :: actT e.act else if e.kind = 2 then 32 :: sayV e.val else [])
theorem addrB_ne {l : List Int} (h : addrB l = true) : l ≠ [] := by
  rintro rfl
  revert h
  decide
theorem evB_kind {e : Ev} (h : evB e = true) : (e.kind = 0 ∨ e.kind = 1 ∨ e.kind = 2 ∨ e.kind = 3 ∨ e.kind = 4 ∨ e.kind = 5 ∨ e.kind = 6) ∧ (e.addr = [] ↔ e.kind = 0 ∨ e.kind = 5 ∨ e.kind = 6) ∧ (e.kind = 1 → 1 ≤ e.act ∧ e.act ≤ 4) ∧ (e.kind = 2 → valB e.val = true) := by
  unfold evB at h
  split at h
  · rename_i k
    simp only [Bool.and_eq_true] at h
    have := addrB_ne h.1.1.1
    have h2 := h.1.2
    simp only [kmapB, Bool.and_eq_true] at h2
    exact ⟨by omega, ⟨fun h => absurd h this, fun h => by omega⟩, fun h => by omega, fun _ => h2.1.2⟩
  split at h
  · cases h
  split at h
  · rename_i k
    simp at h
    exact ⟨by omega, ⟨fun _ => k, fun _ => h.1⟩, fun h => by omega, fun h => by omega⟩
  split at h
  · rename_i k
    simp [inI] at h
    have := addrB_ne h.1
    exact ⟨by omega, ⟨fun h => absurd h this, fun h => by omega⟩, fun _ => by omega, fun h => by omega⟩
  split at h
  · rename_i k
    simp at h
    have := addrB_ne h.1
    exact ⟨by omega, ⟨fun h => absurd h this, fun h => by omega⟩, fun h => by omega, fun h => by omega⟩
  · cases h
theorem p74 (e : Ev) (he : EOk e) (hb : evB e = true) : phi C0 (lim C0) 74 [.ag [(.pv false (.sc (.int .i64 e.kind))), .pv false (.sl (nums .u8 e.addr)), (.pv false (.sc (.int .i64 e.act))), (.pv false (.sc (.int .i64 e.val.kind))), (.pv false (.sc (.int .i64 e.val.n))), .pv false (.sl (nums .u8 e.val.s)), .pv false (.sl (rws byP e.val.k)), .pv false (.sl (rws vP e.val.l)), .pv false (.sl (rws byP e.deps))]] [] = some (.ref 16 0 (evT e).length, [(16, .row .own 5 1 (nums .u8 (evT e)))]) := call0 Tryz.func74 (by kernel_rfl) ((show ∀ fn : Func, fn.results = #[.tmp 2] → lim C0 74 fn [.c (code Tryz.f74)] ⟨_, _⟩ = _ from fun fn hr => by
  have hp3 := plan74_3
  simp [opsOf, code, Tryz.f74] at hp3
  have hp6 := plan74_6
  simp [opsOf, code, Tryz.f74] at hp6
  have hp8 := plan74_8
  simp [opsOf, code, Tryz.f74] at hp8
  obtain ⟨hk, ha, h1, h2⟩ := evB_kind hb
  have hd := he.addr
  unfold evT knT
  obtain ⟨d, hd0⟩ : ∃ d, e.addr = d := ⟨_, rfl⟩
  rw [hd0] at hd ha ⊢
  have z0 : (⟨#[98, 101, 103, 105, 110]⟩ : ByteArray).size = 5 := rfl
  have z1 : (⟨#[105, 110, 116, 101, 110, 116]⟩ : ByteArray).size = 6 := rfl
  have z2 : (⟨#[100, 111, 110, 101]⟩ : ByteArray).size = 4 := rfl
  have z3 : (⟨#[103, 111, 110, 101]⟩ : ByteArray).size = 4 := rfl
  have z4 : (⟨#[102, 97, 105, 108]⟩ : ByteArray).size = 4 := rfl
  have z5 : (⟨#[101, 110, 100]⟩ : ByteArray).size = 3 := rfl
  have z6 : (⟨#[114, 101, 115, 101, 116]⟩ : ByteArray).size = 5 := rfl
  have z0 : (⟨#[98, 101, 103, 105, 110]⟩ : ByteArray).size = 5 := rfl
  have z1 : (⟨#[105, 110, 116, 101, 110, 116]⟩ : ByteArray).size = 6 := rfl
  have z2 : (⟨#[100, 111, 110, 101]⟩ : ByteArray).size = 4 := rfl
  have z3 : (⟨#[103, 111, 110, 101]⟩ : ByteArray).size = 4 := rfl
  have z4 : (⟨#[102, 97, 105, 108]⟩ : ByteArray).size = 4 := rfl
  have z5 : (⟨#[101, 110, 100]⟩ : ByteArray).size = 3 := rfl
  have z6 : (⟨#[114, 101, 115, 101, 116]⟩ : ByteArray).size = 5 := rfl
  have z0 : (⟨#[98, 101, 103, 105, 110]⟩ : ByteArray).size = 5 := rfl
  have z1 : (⟨#[105, 110, 116, 101, 110, 116]⟩ : ByteArray).size = 6 := rfl
  have z2 : (⟨#[100, 111, 110, 101]⟩ : ByteArray).size = 4 := rfl
  have z3 : (⟨#[103, 111, 110, 101]⟩ : ByteArray).size = 4 := rfl
  have z4 : (⟨#[102, 97, 105, 108]⟩ : ByteArray).size = 4 := rfl
  have z5 : (⟨#[101, 110, 100]⟩ : ByteArray).size = 3 := rfl
  have z6 : (⟨#[114, 101, 115, 101, 116]⟩ : ByteArray).size = 5 := rfl
  rcases hk with k | k | k | k | k | k | k
  · have ha' : d = [] := ha.2 (by omega)
    subst ha'
    simp [code, Tryz.f74, hr, hp3, hp6, hp8, k, hd0, z0, z1, z2, z3, z4, z5, z6]
    try simp [rws]
  · have ha' : ¬ d = [] := fun h => by have := ha.1 h; omega
    have hp : 0 < d.length := List.length_pos_iff.2 ha'
    have q3 := p63 e.act (h1 k).1 (h1 k).2
    obtain ⟨w1, w2, w3⟩ := actT_ok e.act
    have q4 := bytes_back w1
    have q5 : (strOfNums (actT e.act)).size = (actT e.act).length := strOfNums_size _
    generalize actT e.act = a at *
    have g0 := room_ok (n := 7) (by omega)
    have m0 := max_ok' (n := 7) (by omega)
    have g1 := room_ok (n := 7 + d.length) (by omega)
    have m1 := max_ok' (n := 7 + d.length) (by omega)
    have g2 := room_ok (n := 7 + d.length + 1) (by omega)
    have m2 := max_ok' (n := 7 + d.length + 1) (by omega)
    have g3 := room_ok (n := 7 + d.length + 1 + a.length) (by omega)
    have m3 := max_ok' (n := 7 + d.length + 1 + a.length) (by omega)
    have s0 := spare_no (a := 6) (b := 6) (by omega)
    have l0 := le_ok' (a := 6) (b := 6) (by omega)
    have s1 := spare_no (a := 7) (b := 7) (by omega)
    have l1 := le_ok' (a := 7) (b := 7) (by omega)
    have s2 := spare_no (a := 7 + d.length) (b := d.length + 1 + 1 + 1 + 1 + 1 + 1 + 1) (by omega)
    have l2 := le_ok' (a := 7 + d.length) (b := d.length + 1 + 1 + 1 + 1 + 1 + 1 + 1) (by omega)
    have s3 := spare_no (a := 7 + d.length + 1) (b := d.length + 1 + 1 + 1 + 1 + 1 + 1 + 1 + 1) (by omega)
    have l3 := le_ok' (a := 7 + d.length + 1) (b := d.length + 1 + 1 + 1 + 1 + 1 + 1 + 1 + 1) (by omega)
    simp [code, Tryz.f74, hr, hp3, hp6, hp8, k, hd0, hp, ha', q3, q4, q5, z0, z1, z2, z3, z4, z5, z6, g0, m0, g1, m1, g2, m2, g3, m3, s0, l0, s1, l1, s2, l2, s3, l3]
    (repeat rw [List.take_of_length_le (by first | (simp; done) | (simp; omega))])
    exact ⟨by omega, by simp [rws]⟩
  · have ha' : ¬ d = [] := fun h => by have := ha.1 h; omega
    have hp : 0 < d.length := List.length_pos_iff.2 ha'
    have hv5 : shV e.val 5 = true ∧ ptV e.val ≤ 40 := by simpa [valB] using h2 k
    have hu := say_len e.val 5 hv5.1
    have q6 := fun a => pText e.val (sh_say _ 5 hv5.1 he.vl (by omega)) a
    generalize sayV e.val = u at *
    have g0 := room_ok (n := 5) (by omega)
    have m0 := max_ok' (n := 5) (by omega)
    have g1 := room_ok (n := 5 + d.length) (by omega)
    have m1 := max_ok' (n := 5 + d.length) (by omega)
    have g2 := room_ok (n := 5 + d.length + 1) (by omega)
    have m2 := max_ok' (n := 5 + d.length + 1) (by omega)
    have s0 := spare_no (a := 4) (b := 4) (by omega)
    have l0 := le_ok' (a := 4) (b := 4) (by omega)
    have s1 := spare_no (a := 5) (b := 5) (by omega)
    have l1 := le_ok' (a := 5) (b := 5) (by omega)
    have s2 := spare_no (a := 5 + d.length) (b := d.length + 1 + 1 + 1 + 1 + 1) (by omega)
    have l2 := le_ok' (a := 5 + d.length) (b := d.length + 1 + 1 + 1 + 1 + 1) (by omega)
    simp [code, Tryz.f74, hr, hp3, hp6, hp8, k, hd0, hp, ha', z0, z1, z2, z3, z4, z5, z6, g0, m0, g1, m1, g2, m2, s0, l0, s1, l1, s2, l2]
    (repeat rw [List.take_of_length_le (by first | (simp; done) | (simp; omega))])
    have q := q6 (100 :: 111 :: 110 :: 101 :: 32 :: (d ++ [32])) false false false (by simp; omega)
    have eL : (100 :: 111 :: 110 :: 101 :: 32 :: (d ++ [32])).length = 5 + d.length + 1 := by simp; omega
    have eR : nums .u8 (100 :: 111 :: 110 :: 101 :: 32 :: (d ++ [32])) = ([.sc (.int .u8 100)] :: [.sc (.int .u8 111)] :: [.sc (.int .u8 110)] :: [.sc (.int .u8 101)] :: [.sc (.int .u8 32)] :: nums .u8 d) ++ [[.sc (.int .u8 32)]] := by simp [rws]
    rw [eL, eR] at q
    rw [q]
    simp [hr]
    try omega
  · have ha' : ¬ d = [] := fun h => by have := ha.1 h; omega
    have hp : 0 < d.length := List.length_pos_iff.2 ha'
    have g0 := room_ok (n := 5) (by omega)
    have m0 := max_ok' (n := 5) (by omega)
    have g1 := room_ok (n := 5 + d.length) (by omega)
    have m1 := max_ok' (n := 5 + d.length) (by omega)
    have s0 := spare_no (a := 4) (b := 4) (by omega)
    have l0 := le_ok' (a := 4) (b := 4) (by omega)
    have s1 := spare_no (a := 5) (b := 5) (by omega)
    have l1 := le_ok' (a := 5) (b := 5) (by omega)
    simp [code, Tryz.f74, hr, hp3, hp6, hp8, k, hd0, hp, ha', z0, z1, z2, z3, z4, z5, z6, g0, m0, g1, m1, s0, l0, s1, l1]
    try simp [rws]
    omega
  · have ha' : ¬ d = [] := fun h => by have := ha.1 h; omega
    have hp : 0 < d.length := List.length_pos_iff.2 ha'
    have g0 := room_ok (n := 5) (by omega)
    have m0 := max_ok' (n := 5) (by omega)
    have g1 := room_ok (n := 5 + d.length) (by omega)
    have m1 := max_ok' (n := 5 + d.length) (by omega)
    have s0 := spare_no (a := 4) (b := 4) (by omega)
    have l0 := le_ok' (a := 4) (b := 4) (by omega)
    have s1 := spare_no (a := 5) (b := 5) (by omega)
    have l1 := le_ok' (a := 5) (b := 5) (by omega)
    simp [code, Tryz.f74, hr, hp3, hp6, hp8, k, hd0, hp, ha', z0, z1, z2, z3, z4, z5, z6, g0, m0, g1, m1, s0, l0, s1, l1]
    try simp [rws]
    omega
  · have ha' : d = [] := ha.2 (by omega)
    subst ha'
    simp [code, Tryz.f74, hr, hp3, hp6, hp8, k, hd0, z0, z1, z2, z3, z4, z5, z6]
    try simp [rws]
  · have ha' : d = [] := ha.2 (by omega)
    subst ha'
    simp [code, Tryz.f74, hr, hp3, hp6, hp8, k, hd0, z0, z1, z2, z3, z4, z5, z6]
    try simp [rws]
  ) Tryz.f74 Tryz.results74)
end Go.Proofs.YtgkhojgmpojodaaGreatDoor
