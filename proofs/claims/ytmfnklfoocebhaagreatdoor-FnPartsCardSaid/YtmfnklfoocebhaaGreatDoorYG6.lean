/- The order of a graph, by the reference. -/
import Derived.Test.YtmfnklfoocebhaaGreatDoorYG5
namespace Go.Proofs.YtmfnklfoocebhaaGreatDoor
open Go Go.Pm Go.Proofs
set_option linter.unusedVariables false
set_option linter.unusedSimpArgs false
theorem ordL_step {n : Nat} {l : List Ed} {out : List Int} : ordL n l out = if nextU out l n n 0 < n then ordL n l (out ++ [(nextU out l n n 0 : Int)]) else out := by
  rw [ordL]; simp
end Go.Proofs.YtmfnklfoocebhaaGreatDoor
