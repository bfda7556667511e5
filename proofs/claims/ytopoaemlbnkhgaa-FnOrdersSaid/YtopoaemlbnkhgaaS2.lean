/- Graphs and lists as arguments. -/
import Derived.Test.YtopoaemlbnkhgaaS1
import Derived.Test.YtopoaemlbnkhgaaG1
namespace Go.Proofs.Ytopoaemlbnkhgaa
open Go Go.Pm Go.Proofs
set_option linter.unusedVariables false
set_option linter.unusedSimpArgs false
theorem eds_of {n : Nat} : ∀ {rows : List (List PV)}, (∀ r ∈ rows, Shape C0 (n + 2) 95 r) → ∃ l : List Ed, rows = eds l
  | [], _ => ⟨[], rfl⟩
  | r :: rows, h => by
    obtain ⟨l, hl⟩ := eds_of (rows := rows) (fun r hr => h r (List.mem_cons_of_mem _ hr))
    have h0 := h r (List.mem_cons_self ..)
    simp only [Shape, C0_T, tyT95, ShapeFs, tyT3] at h0
    obtain ⟨_, _, rfl, ⟨a, rfl, _⟩, _, _, rfl, ⟨b, rfl, _⟩, rfl⟩ := h0
    exact ⟨(a, b) :: l, by rw [hl]; rfl⟩
theorem graph_of {ps : List PV} (h : Shape C0 8 47 ps) : ∃ n l, ps = [.sc (.int .i64 n), .sl (eds l)] ∧ l.length ≤ 9223372036854775807 := by
  simp only [Shape, C0_T, tyT47, ShapeFs, tyT3, tyT45] at h
  obtain ⟨_, _, rfl, ⟨k, rfl, _⟩, _, _, rfl, ⟨rows, rfl, h1, h2⟩, rfl⟩ := h
  obtain ⟨l, rfl⟩ := eds_of (n := 5) h2
  exact ⟨k, l, rfl, by simpa [maxLen] using h1⟩
theorem ints_of {ps : List PV} (h : Shape C0 8 23 ps) : ∃ l, ps = [.sl (nums .i64 l)] ∧ l.length ≤ 9223372036854775807 := by
  simp only [Shape, C0_T, tyT23] at h
  obtain ⟨rows, rfl, h1, h2⟩ := h
  obtain ⟨l, rfl⟩ := nums_of (n := 6) (e := 3) tyT3 h2
  exact ⟨l, rfl, by simpa [maxLen] using h1⟩
theorem int_of {ps : List PV} (h : Shape C0 8 3 ps) : ∃ n, ps = [.sc (.int .i64 n)] := by
  simp only [Shape, C0_T, tyT3] at h
  obtain ⟨n, rfl, _⟩ := h
  exact ⟨n, rfl⟩
end Go.Proofs.Ytopoaemlbnkhgaa
