/- Values, plans and bytes as arguments. -/
import Derived.Test.YtgbfmdihmnpcdaaGreatDoorV10
import Derived.Below
namespace Go.Proofs.YtgbfmdihmnpcdaaGreatDoor
open Go Go.Pm Go.Proofs
set_option linter.unusedVariables false
set_option linter.unusedSimpArgs false
theorem laidOut : laidOutB Tryz.prog = true := by kernel_rfl
theorem int_at {n : Nat} {ps : List PV} (h : Shape C0 n 3 ps) : ∃ a, ps = [.sc (.int .i64 a)] ∧ -9223372036854775808 ≤ a ∧ a ≤ 9223372036854775807 := by
 cases n with
 | zero => cases h
 | succ n =>
  simp only [Shape, C0_T, tyT3] at h
  obtain ⟨a, rfl, hw⟩ := h
  refine ⟨a, rfl, ?_⟩
  have := hw
  simp [Lit.wf] at this
  have h1 : IntKind.i64.min = -9223372036854775808 := by decide
  have h2 : IntKind.i64.max = 9223372036854775807 := by decide
  omega
theorem u8_at {n : Nat} {ps : List PV} (h : Shape C0 n 5 ps) : ∃ a, ps = [.sc (.int .u8 a)] ∧ 0 ≤ a ∧ a < 256 := by
 cases n with
 | zero => cases h
 | succ n =>
  simp only [Shape, C0_T, tyT5] at h
  obtain ⟨a, rfl, hw⟩ := h
  refine ⟨a, rfl, ?_⟩
  have := hw
  simp [Lit.wf] at this
  have h1 : IntKind.u8.min = 0 := by decide
  have h2 : IntKind.u8.max = 255 := by decide
  omega
theorem bytes_at {n : Nat} {ps : List PV} (h : Shape C0 n 25 ps) : ∃ l, ps = [.sl (nums .u8 l)] ∧ l.length ≤ 9223372036854775807 ∧ byteOk l = true := by
 cases n with
 | zero => cases h
 | succ n =>
  simp only [Shape, C0_T, tyT25] at h
  obtain ⟨rows, rfl, hl, hr⟩ := h
  have : ∀ {rows : List (List PV)}, (∀ r ∈ rows, Shape C0 n 5 r) → ∃ l, rows = nums .u8 l ∧ byteOk l = true := by
   intro rows
   induction rows with
   | nil => intro _; exact ⟨[], rfl, rfl⟩
   | cons r rows ih =>
    intro hr
    obtain ⟨l, rfl, h2⟩ := ih fun r h => hr r (List.mem_cons_of_mem _ h)
    obtain ⟨a, rfl, h0, h1⟩ := u8_at (hr r (List.mem_cons_self ..))
    exact ⟨a :: l, rfl, by simp only [byteOk, List.all_cons, Bool.and_eq_true, decide_eq_true_eq] at h2 ⊢; exact ⟨⟨h0, h1⟩, h2⟩⟩
  obtain ⟨l, rfl, h2⟩ := this hr
  exact ⟨l, rfl, by simpa [maxLen] using hl, h2⟩
theorem bss_at {n : Nat} {ps : List PV} (h : Shape C0 n 64 ps) : ∃ l, ps = [.sl (rws byP l)] ∧ l.length ≤ 9223372036854775807 ∧ ∀ x ∈ l, x.length ≤ 9223372036854775807 ∧ byteOk x = true := by
 cases n with
 | zero => cases h
 | succ n =>
  simp only [Shape, C0_T, tyT64] at h
  obtain ⟨rows, rfl, hl, hr⟩ := h
  have : ∀ {rows : List (List PV)}, (∀ r ∈ rows, Shape C0 n 25 r) → ∃ l, rows = rws byP l ∧ ∀ x ∈ l, x.length ≤ 9223372036854775807 ∧ byteOk x = true := by
   intro rows
   induction rows with
   | nil => intro _; exact ⟨[], rfl, fun x hx => by cases hx⟩
   | cons r rows ih =>
    intro hr
    obtain ⟨l, rfl, h2⟩ := ih fun r h => hr r (List.mem_cons_of_mem _ h)
    obtain ⟨a, rfl, h0⟩ := bytes_at (hr r (List.mem_cons_self ..))
    exact ⟨a :: l, rfl, fun x hx => by
     rcases List.mem_cons.1 hx with rfl | hx
     · exact h0
     · exact h2 x hx⟩
  obtain ⟨l, rfl, h2⟩ := this hr
  exact ⟨l, rfl, by simpa [maxLen] using hl, h2⟩
theorem val_at : ∀ {n : Nat} {ps : List PV}, Shape C0 n 103 ps → ∃ v, ps = vP v ∧ VBig v ∧ VBy v
 | 0, _, h => by cases h
 | n + 1, ps, h => by
  simp only [Shape, C0_T, tyT103, ShapeFs] at h
  obtain ⟨_, _, rfl, h1, _, _, rfl, h2, _, _, rfl, h3, _, _, rfl, h4, _, _, rfl, h5, rfl⟩ := h
  obtain ⟨kind, rfl, _⟩ := int_at h1
  obtain ⟨m, rfl, _⟩ := int_at h2
  obtain ⟨s, rfl, hs⟩ := bytes_at h3
  obtain ⟨k, rfl, hk⟩ := bss_at h4
  cases n with
  | zero => cases h5
  | succ n =>
   simp only [Shape, C0_T, tyT101] at h5
   obtain ⟨rows, rfl, hl, hr⟩ := h5
   have : ∀ {rows : List (List PV)}, (∀ r ∈ rows, Shape C0 n 103 r) → ∃ l, rows = rws vP l ∧ ∀ u ∈ l, VBig u ∧ VBy u := by
    intro rows
    induction rows with
    | nil => intro _; exact ⟨[], rfl, fun x hx => by cases hx⟩
    | cons r rows ih =>
     intro hr
     obtain ⟨l, rfl, h2⟩ := ih fun r h => hr r (List.mem_cons_of_mem _ h)
     obtain ⟨a, rfl, h0⟩ := val_at (hr r (List.mem_cons_self ..))
     exact ⟨a :: l, rfl, fun x hx => by
      rcases List.mem_cons.1 hx with rfl | hx
      · exact h0
      · exact h2 x hx⟩
   obtain ⟨l, rfl, h6⟩ := this hr
   refine ⟨.mk kind m s k l, by simp [Val.kind, Val.n, Val.s, Val.k, Val.l], .mk ⟨hs.1, hk.1, fun x hx => (hk.2 x hx).1, (by simpa [maxLen] using hl : l.length ≤ 9223372036854775807)⟩ fun u hu => (h6 u hu).1, .mk ⟨hs.2, fun x hx => (hk.2 x hx).2⟩ fun u hu => (h6 u hu).2⟩
end Go.Proofs.YtgbfmdihmnpcdaaGreatDoor
