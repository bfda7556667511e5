/- Order and Layer. -/
import Derived.Test.YtopoaemlbnkhgaaG7
namespace Go.Proofs.Ytopoaemlbnkhgaa
open Go Go.Pm Go.Proofs
set_option linter.unusedVariables false
set_option linter.unusedSimpArgs false
set_option maxRecDepth 100000 in
set_option maxHeartbeats 4000000 in
theorem e56_no (fn : Func) (hr : fn.results = #[.tmp 2, .tmp 3]) (b : Bool) (n : Int) (l : List Ed) (hl : l.length ≤ 1048576) (he : gOk n l = false) : lim C0 56 fn [.c (code Try.f56)] ⟨number [grTV b n l] 0, []⟩ = some (.tu [.ref 16 0 0, (.pv false (.sc (.bool false)))], [(16, .row .own 3 1 [])]) := by
  have p1 := p59
  simp only [grTV] at p1
  simp [code, Try.f56, hr, p1, he, hl]
theorem p56_no (b : Bool) (n : Int) (l : List Ed) (hl : l.length ≤ 1048576) (he : gOk n l = false) : phi C0 (lim C0) 56 [grTV b n l] [] = some (.tu [.ref 16 0 0, (.pv false (.sc (.bool false)))], [(16, .row .own 3 1 [])]) := call0 Try.func56 (by kernel_rfl) (e56_no Try.f56 Try.results56 b n l hl he)
set_option maxRecDepth 100000 in
set_option maxHeartbeats 4000000 in
theorem e21 (fn : Func) (hr : fn.results = #[.tmp 2, .tmp 3]) (b : Bool) (n : Int) (l : List Ed) (hl : l.length ≤ 1048576) : lim C0 21 fn [.c (code Try.f21)] ⟨number [grTV b n l] 0, []⟩ = some (if gOk n l && decide (n ≤ (ordL n.toNat l []).length) then (.tu [.ref 16 0 (ordL n.toNat l []).length, (.pv false (.sc (.bool true)))], [(16, .row .own 3 1 (nums .i64 (ordL n.toNat l [])))]) else (.tu [.ref 16 0 0, (.pv false (.sc (.bool false)))], [(16, .row .own 3 1 [])])) := by
  cases h : gOk n l
  · have p1 := fun b => p56_no b n l hl h
    simp only [grTV] at p1
    simp [code, Try.f21, hr, p1]
  · obtain ⟨m, rfl, _, _, _⟩ := gOk_n h
    have p1 := fun b => p56 b m l hl h
    simp only [grTV] at p1
    by_cases hc : m ≤ (ordL m l []).length
    · simp only [hc, if_true] at p1
      simp [code, Try.f21, hr, p1, hc]
    · simp only [hc, if_false] at p1
      simp [code, Try.f21, hr, p1, hc]
theorem p21 (b : Bool) (n : Int) (l : List Ed) (hl : l.length ≤ 1048576) : phi C0 (lim C0) 21 [grTV b n l] [] = some (if gOk n l && decide (n ≤ (ordL n.toNat l []).length) then (.tu [.ref 16 0 (ordL n.toNat l []).length, (.pv false (.sc (.bool true)))], [(16, .row .own 3 1 (nums .i64 (ordL n.toNat l [])))]) else (.tu [.ref 16 0 0, (.pv false (.sc (.bool false)))], [(16, .row .own 3 1 [])])) := call0 Try.func21 (by kernel_rfl) (e21 Try.f21 Try.results21 b n l hl)
end Go.Proofs.Ytopoaemlbnkhgaa
