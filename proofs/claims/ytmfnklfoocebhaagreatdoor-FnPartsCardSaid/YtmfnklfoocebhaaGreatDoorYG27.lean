/- Leads, by the program. -/
import Derived.Test.YtmfnklfoocebhaaGreatDoorYG26
import Derived.Test.YtmfnklfoocebhaaGreatDoorYG7
namespace Go.Proofs.YtmfnklfoocebhaaGreatDoor
open Go Go.Pm Go.Proofs
set_option linter.unusedVariables false
set_option linter.unusedSimpArgs false
set_option maxRecDepth 100000
set_option maxHeartbeats 4000000
theorem p8 (b : Bool) (n : Int) (l : List Ed) (hl : l.length ≤ 1048576) : phi C0 (lim C0) 8 [grTV b n l] [] = some ((.pv false (.sc (.bool (gOk n l)))), []) := call0 Tryz.func8 (by kernel_rfl) ((show ∀ fn : Func, fn.results = #[.tmp 2] → lim C0 8 fn [.c (code Tryz.f8)] ⟨_, _⟩ = _ from fun fn hr => by
  have p1 := p10
  simp only [grTV] at p1
  simp [code, Tryz.f8, hr, p1, hl]
  ) Tryz.f8 Tryz.results8)
end Go.Proofs.YtmfnklfoocebhaaGreatDoor
