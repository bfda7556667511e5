/- Order and Layer. -/
import Derived.Test.YtmfnklfoocebhaaGreatDoorYG7
namespace Go.Proofs.YtmfnklfoocebhaaGreatDoor
open Go Go.Pm Go.Proofs
set_option linter.unusedVariables false
set_option linter.unusedSimpArgs false
set_option maxRecDepth 100000
set_option maxHeartbeats 4000000
theorem p15_no (b : Bool) (n : Int) (l : List Ed) (hl : l.length ≤ 1048576) (he : gOk n l = false) : phi C0 (lim C0) 15 [grTV b n l] [] = some (.tu [.ref 16 0 0, (.pv false (.sc (.bool false)))], [(16, .row .own 3 1 [])]) := call0 Tryz.func15 (by kernel_rfl) ((show ∀ fn : Func, fn.results = #[.tmp 2, .tmp 3] → globs fn = [0, 1, 9, 5, 16, 6, 4, 31, 37, 2, 3] → lim C0 15 fn [.c (code Tryz.f15)] ⟨_, _⟩ = _ from fun fn hr hg => by
  have p1 := p10
  simp only [grTV] at p1
  simp [code, Tryz.f15, hr, hg, p1, he, hl]
  ) Tryz.f15 Tryz.results15 gl15)
theorem p7 (b : Bool) (n : Int) (l : List Ed) (hl : l.length ≤ 1048576) : phi C0 (lim C0) 7 [grTV b n l] [] = some (if gOk n l && decide (n ≤ (ordL n.toNat l []).length) then (.tu [.ref 16 0 (ordL n.toNat l []).length, (.pv false (.sc (.bool true)))], [(16, .row .own 3 1 (nums .i64 (ordL n.toNat l [])))]) else (.tu [.ref 16 0 0, (.pv false (.sc (.bool false)))], [(16, .row .own 3 1 [])])) := call0 Tryz.func7 (by kernel_rfl) ((show ∀ fn : Func, fn.results = #[.tmp 2, .tmp 3] → lim C0 7 fn [.c (code Tryz.f7)] ⟨_, _⟩ = _ from fun fn hr => by
  cases h : gOk n l
  · have p1 := fun b => p15_no b n l hl h
    simp only [grTV] at p1
    simp [code, Tryz.f7, hr, p1]
  · obtain ⟨m, rfl, _, _, _⟩ := gOk_n h
    have p1 := fun b => p15 b m l hl h
    simp only [grTV] at p1
    by_cases hc : m ≤ (ordL m l []).length
    · simp only [hc, if_true] at p1
      simp [code, Tryz.f7, hr, p1, hc]
    · simp only [hc, if_false] at p1
      simp [code, Tryz.f7, hr, p1, hc]
  ) Tryz.f7 Tryz.results7)
end Go.Proofs.YtmfnklfoocebhaaGreatDoor
