/- What arguments look like to the pure machine; a law's frame. -/
import Derived.Test.YtopoaemlbnkhgaaT0
import Derived.Test.YtopoaemlbnkhgaaPm4
import Derived.Test.YtopoaemlbnkhgaaRows
import Derived.WalkKit
import Derived.ProofKit
import Derived.OpenShut
import Derived.ShutString
import Derived.ChangeOld
import Derived.SizedLaws
namespace Go.Proofs.Ytopoaemlbnkhgaa
open Go Go.Pm Go.Proofs
set_option linter.unusedVariables false
set_option linter.unusedSimpArgs false
theorem own : ownKnob Try.prog.godebug = none := by kernel_rfl
theorem laidOut : laidOutB Try.prog = true := by kernel_rfl
theorem nums_of {n e : Nat} {k : IntKind} {z : TV} {by_ : Nat} (hT : C0.T e = some ⟨1, by_, .int k, z⟩) : ∀ {rows : List (List PV)}, (∀ r ∈ rows, Shape C0 (n + 1) e r) → ∃ l : List Int, rows = nums k l
  | [], _ => ⟨[], rfl⟩
  | r :: rows, h => by
    obtain ⟨l, hl⟩ := nums_of hT (rows := rows) (fun r hr => h r (List.mem_cons_of_mem _ hr))
    have h0 := h r (List.mem_cons_self ..)
    simp only [Shape, hT] at h0
    obtain ⟨a, rfl, _⟩ := h0
    exact ⟨a :: l, by rw [hl]; rfl⟩
end Go.Proofs.Ytopoaemlbnkhgaa
