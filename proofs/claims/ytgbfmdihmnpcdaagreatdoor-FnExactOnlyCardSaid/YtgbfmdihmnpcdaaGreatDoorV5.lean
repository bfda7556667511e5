/- Plans that have a text, by the program. -/
import Derived.Test.YtgbfmdihmnpcdaaGreatDoorV4
namespace Go.Proofs.YtgbfmdihmnpcdaaGreatDoor
open Go Go.Pm Go.Proofs
set_option linter.unusedVariables false
set_option linter.unusedSimpArgs false
set_option maxRecDepth 100000
set_option maxHeartbeats 4000000
structure Act where
  act : Int
  addr : List Int
  item : Int
  val : Val
  deps : List (List Int)
def aP (a : Act) : List PV := [.sc (.int .i64 a.act), .sl (nums .u8 a.addr), .sc (.int .i64 a.item)] ++ vP a.val ++ [.sl (rws byP a.deps)]
@[simp] theorem aP_eq (a : Act) : aP a = [.sc (.int .i64 a.act), .sl (nums .u8 a.addr), .sc (.int .i64 a.item), .sc (.int .i64 a.val.kind), .sc (.int .i64 a.val.n), .sl (nums .u8 a.val.s), .sl (rws byP a.val.k), .sl (rws vP a.val.l), .sl (rws byP a.deps)] := by simp [aP]
structure ALen (a : Act) : Prop where
  addr : lenB a.addr
  vl : VLen a.val
  vp : ptV a.val ≤ 1048577
  dl : lenBB a.deps
/-- Nothing in it is longer than so; bytes are bytes. -/
structure AOk (a : Act) : Prop where
  addr : lenB a.addr
  addrB : byteOk a.addr = true
  vl : VLen a.val
  vb : VBy a.val
  vp : ptV a.val ≤ 4611686018427387904
  dl : lenBB a.deps
  db : ∀ x ∈ a.deps, byteOk x = true
def actB (a : Act) : Bool := inI a.act 1 4 && addrB a.addr && valB a.val
theorem p67 (a : Act) (ha : AOk a) : phi C0 (lim C0) 67 [.ag [(.pv false (.sc (.int .i64 a.act))), .pv false (.sl (nums .u8 a.addr)), (.pv false (.sc (.int .i64 a.item))), (.pv false (.sc (.int .i64 a.val.kind))), (.pv false (.sc (.int .i64 a.val.n))), .pv false (.sl (nums .u8 a.val.s)), .pv false (.sl (rws byP a.val.k)), .pv false (.sl (rws vP a.val.l)), .pv false (.sl (rws byP a.deps))]] [] = some ((.pv false (.sc (.bool (!actB a)))), []) := call0 Tryz.func67 (by kernel_rfl) ((show ∀ fn : Func, fn.results = #[.tmp 2] → lim C0 67 fn [.c (code Tryz.f67)] ⟨_, _⟩ = _ from fun fn hr => by
  have q1 := p66
  have q2 := p68 a.addr ha.addrB ha.addr
  have q3 := p69 a.val ha.vl ha.vb ha.vp
  simp [code, Tryz.f67, hr, q1]
  repeat' ((first | refine ifL_cases (fun h => ?_) (fun h => ?_) | refine gI_cases' (fun h => ?_) (fun h => ?_) | refine gI_cases (fun h => ?_) (fun h => ?_) | refine dI_cases' (fun h => ?_) (fun h => ?_) | refine dI_cases (fun h => ?_) (fun h => ?_)) <;> first | replace h := of_decide_eq_true h | replace h := of_decide_eq_false h | skip
           all_goals try simp [hr, q1, q2, q3, hr, *])
  all_goals simp_all [actB, hr]
  ) Tryz.f67 Tryz.results67)
theorem p70 (b b' : Bool) (l : List Act) (g : Act → Bool) (f : Nat) (hl : l.length ≤ 1048576) (hs : sgOf f = ⟨[], .d, false⟩) (hf : ∀ v ∈ l, phi C0 (lim C0) f [.ag [(.pv false (.sc (.int .i64 v.act))), .pv false (.sl (nums .u8 v.addr)), (.pv false (.sc (.int .i64 v.item))), (.pv false (.sc (.int .i64 v.val.kind))), (.pv false (.sc (.int .i64 v.val.n))), .pv false (.sl (nums .u8 v.val.s)), .pv false (.sl (rws byP v.val.k)), .pv false (.sl (rws vP v.val.l)), .pv false (.sl (rws byP v.deps))]] [] = some ((.pv false (.sc (.bool (g v)))), [])) : phi C0 (lim C0) 70 [.pv b (.sl (rws aP l)), .pv b' (.cl f [])] [] = some ((.pv false (.sc (.int .i64 (fstB g l 0)))), []) := call0 Tryz.func70 (by kernel_rfl) ((show ∀ fn : Func, fn.results = #[.tmp 4] → globs fn = [0, 8, 7, 9, 5, 1, 16, 4] → lim C0 70 fn [.c (code Tryz.f70)] ⟨_, _⟩ = _ from fun fn hr hg => by
  simp [code, Tryz.f70, hr, hg]
  refine (loop_to (s0 := ?s1) (fun i => l.length - i) (fun i => [(8, (.pv false (.sc (.int .i64 ((i : Nat))))))]) (fun i => []) (fun i K => (if 0 ≤ fstB g (l.drop i) i then some ((.pv false (.sc (.int .i64 (fstB g (l.drop i) i)))), []) else K [(8, (.pv false (.sc (.int .i64 l.length))))] [])) (fun i => i ≤ l.length) 0 ?hc1 ?h01 ?hs1 ?step1).trans ?r1
  case hc1 => simp; rfl
  case h01 => first | (simp; done) | (simp [*]; done) | exact ⟨by simp, ⟨rfl⟩⟩ | grind | (simp; omega)
  case hs1 => first | (simp; done) | (simp [*]; done)
  case r1 =>
    simp [hg, hr]
    intro h
    have := fstB_end (i := 0) (by omega : ¬ 0 ≤ fstB g l 0)
    omega
  intro k i hi ih
  simp [hg]
  (first | refine ifL_cases (fun h => ?_) (fun h => ?_) | refine gI_cases' (fun h => ?_) (fun h => ?_) | refine gI_cases (fun h => ?_) (fun h => ?_) | refine dI_cases' (fun h => ?_) (fun h => ?_) | refine dI_cases (fun h => ?_) (fun h => ?_)) <;> first | replace h := of_decide_eq_true h | replace h := of_decide_eq_false h | skip
  · have hlt := h
    have q := hf l[i] (List.getElem_mem hlt)
    simp [hg, hlt, q, hs, hr, hg]
    rw [fstB_at hlt]
    (first | refine ifL_cases (fun h => ?_) (fun h => ?_) | refine gI_cases' (fun h => ?_) (fun h => ?_) | refine gI_cases (fun h => ?_) (fun h => ?_) | refine dI_cases' (fun h => ?_) (fun h => ?_) | refine dI_cases (fun h => ?_) (fun h => ?_)) <;> first | replace h := of_decide_eq_true h | replace h := of_decide_eq_false h | skip
    · simp [hg, hr, h]
    · simp [hg, h]
      try simp (disch := omega) only [wrap_id']
      refine (ih.out (i + 1) _ ?_ ?_ ?_).trans ?_
      · omega
      · omega
      · simp [hg]
      · rfl
  · have e : i = l.length := by omega
    subst e
    simp [hg, fstB]
  ) Tryz.f70 Tryz.results70 gl70)
theorem p28 (b b' : Bool) (l : List Act) (g : Act → Bool) (f : Nat) (hl : l.length ≤ 1048576) (hs : sgOf f = ⟨[], .d, false⟩) (hf : ∀ v ∈ l, phi C0 (lim C0) f [.ag [(.pv false (.sc (.int .i64 v.act))), .pv false (.sl (nums .u8 v.addr)), (.pv false (.sc (.int .i64 v.item))), (.pv false (.sc (.int .i64 v.val.kind))), (.pv false (.sc (.int .i64 v.val.n))), .pv false (.sl (nums .u8 v.val.s)), .pv false (.sl (rws byP v.val.k)), .pv false (.sl (rws vP v.val.l)), .pv false (.sl (rws byP v.deps))]] [] = some ((.pv false (.sc (.bool (g v)))), [])) : phi C0 (lim C0) 28 [.pv b (.sl (rws aP l)), .pv b' (.cl f [])] [] = some ((.pv false (.sc (.bool (anyB g l)))), []) := call0 Tryz.func28 (by kernel_rfl) ((show ∀ fn : Func, fn.results = #[.tmp 4] → lim C0 28 fn [.c (code Tryz.f28)] ⟨_, _⟩ = _ from fun fn hr => by
  have q := p70 b b' l g f hl hs hf
  simp [code, Tryz.f28, hr, q, fstB_any]
  ) Tryz.f28 Tryz.results28)
def planB (l : List Act) (same : Int) : Bool := decide (l.length ≤ 32) && inI same 0 16 && !anyB (fun a => !actB a) l
theorem p27 (b : Bool) (l : List Act) (same : Int) (hl : l.length ≤ 1048576) (ha : ∀ a ∈ l, AOk a) : phi C0 (lim C0) 27 [.ag [.pv b (.sl (rws aP l)), (.pv false (.sc (.int .i64 same)))]] [] = some ((.pv false (.sc (.bool (planB l same)))), []) := call0 Tryz.func27 (by kernel_rfl) ((show ∀ fn : Func, fn.results = #[.tmp 2] → lim C0 27 fn [.c (code Tryz.f27)] ⟨_, _⟩ = _ from fun fn hr => by
  have q1 := p66
  have q2 := fun b b' => p28 b b' l (fun a => !actB a) 67 hl rfl (fun a hm => p67 a (ha a hm))
  simp [code, Tryz.f27, hr, q1]
  repeat' ((first | refine ifL_cases (fun h => ?_) (fun h => ?_) | refine gI_cases' (fun h => ?_) (fun h => ?_) | refine gI_cases (fun h => ?_) (fun h => ?_) | refine dI_cases' (fun h => ?_) (fun h => ?_) | refine dI_cases (fun h => ?_) (fun h => ?_)) <;> first | replace h := of_decide_eq_true h | replace h := of_decide_eq_false h | skip
           all_goals try simp [hr, q1, q2, hr, *])
  all_goals simp_all [planB, hr]
  all_goals omega
  ) Tryz.f27 Tryz.results27)
end Go.Proofs.YtgbfmdihmnpcdaaGreatDoor
