/- What the laws' helpers do with graphs. -/
import Derived.Test.YtmfnklfoocebhaaGreatDoorYA1
namespace Go.Proofs.YtmfnklfoocebhaaGreatDoor
open Go Go.Pm Go.Proofs
set_option linter.unusedVariables false
set_option linter.unusedSimpArgs false
attribute [simp] edP
abbrev eds (l : List Ed) : List (List PV) := rws edP l
@[simp] theorem edP_all (l : List Ed) : ∀ r ∈ eds l, r.length = 2 := rws_all edP l fun _ => rfl
@[simp] theorem edP_snoc (l : List Ed) (a b : Int) : eds l ++ [[.sc (.int .i64 a), .sc (.int .i64 b)]] = eds (l ++ [(a, b)]) := by simp [rws]
def edTV (e : Ed) : TV := .ag [(.pv false (.sc (.int .i64 e.1))), (.pv false (.sc (.int .i64 e.2)))]
attribute [simp] edTV
/-- A graph, its edges being read. -/
def grTV (b : Bool) (n : Int) (l : List Ed) : TV := .ag [(.pv false (.sc (.int .i64 n))), .pv b (.sl (eds l))]
attribute [simp] grTV
end Go.Proofs.YtmfnklfoocebhaaGreatDoor
