/- Asks, by the reference. -/
import Derived.Test.YtgkhojgmpojodaaDoorV11
namespace Go.Proofs.YtgkhojgmpojodaaDoor
open Go Go.Pm Go.Proofs
set_option linter.unusedVariables false
set_option linter.unusedSimpArgs false
set_option maxRecDepth 100000 in
set_option maxHeartbeats 4000000 in
theorem e5 (fn : Func) (hr : fn.results = #[.tmp 2]) (b : Bool) (l : List Act) (same : Int) (hl : l.length ≤ 1048576) (ha : ∀ a ∈ l, ALen a ∧ AOk a) : lim C0 5 fn [.c (code Tryd.f5)] ⟨number [.ag [.pv b (.sl (rws aP l)), (.pv false (.sc (.int .i64 same)))]] 0, []⟩ = some ((.pv false (.sc (.int .i64 (if planB l same then (l.length : Int) else 0)))), []) := by
  have q := fun b => p10 b l same hl ha
  have hne : (planT l same).length ≠ 0 := by unfold planT; simp
  cases h : planB l same
  · simp only [h, Bool.false_eq_true, if_false] at q
    simp [code, Tryd.f5, hr, q, h]
  · simp only [h, if_true] at q
    generalize planT l same = t at *
    simp [code, Tryd.f5, hr, q, h, hne]
theorem p5 (b : Bool) (l : List Act) (same : Int) (hl : l.length ≤ 1048576) (ha : ∀ a ∈ l, ALen a ∧ AOk a) : phi C0 (lim C0) 5 [.ag [.pv b (.sl (rws aP l)), (.pv false (.sc (.int .i64 same)))]] [] = some ((.pv false (.sc (.int .i64 (if planB l same then (l.length : Int) else 0)))), []) := call0 Tryd.func5 (by kernel_rfl) (e5 Tryd.f5 Tryd.results5 b l same hl ha)
end Go.Proofs.YtgkhojgmpojodaaDoor
