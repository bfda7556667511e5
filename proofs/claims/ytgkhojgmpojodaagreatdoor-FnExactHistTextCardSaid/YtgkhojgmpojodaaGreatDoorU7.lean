/- States written over, by the laws. -/
import Derived.Test.YtgkhojgmpojodaaGreatDoorW5
namespace Go.Proofs.YtgkhojgmpojodaaGreatDoor
open Go Go.Pm Go.Proofs
set_option linter.unusedVariables false
set_option linter.unusedSimpArgs false
set_option maxRecDepth 100000
set_option maxHeartbeats 4000000
theorem p34 (serial : Int) (opn : Bool) (pend : List Int) (act : Int) (ents : List En) (k : Int) (h0 : 0 ≤ k) (h1 : k + pend.length + mkAs (nAs ents) ≤ 4611686018427387904) (h2 : ∀ x ∈ ents, ALen (nA x)) (hl : ents.length ≤ 1048576) : phi C0 (lim C0) 34 [.ag [(.pv false (.sc (.int .i64 serial))), (.pv false (.sc (.bool opn))), .dv (some 0) (nums .u8 pend), (.pv false (.sc (.int .i64 act))), .dv (some 0) (rws nP ents)], (.pv false (.sc (.int .i64 k)))] [(0, .dat false)] = some ((.pv false (.sc (.int .i64 (k + pend.length + mkAs (nAs ents))))), [(0, .dat false)]) := call0 Tryz.func34 (by kernel_rfl) ((show ∀ fn : Func, fn.results = #[.tmp 4] → lim C0 34 fn [.c (code Tryz.f34)] ⟨_, _⟩ = _ from fun fn hr => by
  have q1 := p18 pend k (by omega) (by omega)
  have q2 := p89 ents (k + pend.length) (by omega) (by omega) h2 hl
  simp [code, Tryz.f34, hr, q1, q2]
  ) Tryz.f34 Tryz.results34)
end Go.Proofs.YtgkhojgmpojodaaGreatDoor
