/- The law's code: what was drawn, its part, the orders of both. -/
import Derived.Test.YtmfnklfoocebhaaGreatDoorYL0
import Derived.Test.YtmfnklfoocebhaaGreatDoorYG4
import Derived.Test.YtmfnklfoocebhaaGreatDoorYG29
namespace Go.Proofs.YtmfnklfoocebhaaGreatDoor
open Go Go.Pm Go.Proofs
set_option linter.unusedVariables false
set_option linter.unusedSimpArgs false
set_option maxRecDepth 100000
set_option maxHeartbeats 4000000
theorem p4 (s : List Int) (hs : s.length ≤ 9223372036854775807) : phi C0 (lim C0) 4 [.pv false (.sl (nums .u8 s))] [] = some (.tu [.ag [(.pv false (.sc (.int .i64 ((bent (cur0 s)).1.1)))), .pv false (.sl (eds (bent (cur0 s)).1.2))], .pv false (.sl (nums .i64 (drF (cur0 s))))], []) := call0 Tryz.func4 (by kernel_rfl) ((show ∀ fn : Func, fn.results = #[.cell 2 25, .tmp 3] → lim C0 4 fn [.c (code Tryz.f4)] ⟨_, _⟩ = _ from fun fn hr => by
  have q0 := p9 s hs
  simp [code, Tryz.f4, hr, q0]
  ) Tryz.f4 Tryz.results4)
theorem p6 : phi C0 (lim C0) 6 [] [] = some (tf true, []) := phi_ext rfl
theorem p3 (s : List Int) (hs : s.length ≤ 9223372036854775807) : phi C0 (lim C0) 3 [.pv false (.sl (nums .u8 s))] [] = some (tf true, []) := call0 Tryz.func3 (by kernel_rfl) ((show ∀ fn : Func, fn.results = #[.tmp 2] → lim C0 3 fn [.c (code Tryz.f3)] ⟨_, _⟩ = _ from fun fn hr => by
  have hp1 := plan3_1
  simp [opsOf, code, Tryz.f3] at hp1
  have hp2 := plan3_2
  simp [opsOf, code, Tryz.f3] at hp2
  have hp5 := plan3_5
  simp [opsOf, code, Tryz.f3] at hp5
  have hp6 := plan3_6
  simp [opsOf, code, Tryz.f3] at hp6
  have hp7 := plan3_7
  simp [opsOf, code, Tryz.f3] at hp7
  have hL := bent_len (cur0 s)
  have hP := drF_len (cur0 s)
  have q0 := p4 s hs
  have qa := p6
  generalize (bent (cur0 s)).1 = G at *
  generalize drF (cur0 s) = P at *
  obtain ⟨N, L⟩ := G
  simp only at hL q0
  have hK := keepE_len P L
  have q1 := fun b b' => p5 b b' N L P (by omega) (by omega)
  have q2 := fun b => p7 b N L (by omega)
  have q3 := fun b b' => p5 b b' N (keepE P L) P (by omega) (by omega)
  have q4 := fun b => p7 b N (keepE P L) (by omega)
  have q5 := fun b => p8 b N (keepE P L) (by omega)
  simp only [grTV] at q1 q2 q3 q4 q5
  cases hc : (gOk N L && decide (P.length ≤ 20)) with
  | false =>
    rw [hc] at q1
    simp [code, Tryz.f3, hr, hp1, hp2, hp5, hp6, hp7, q0, q1, qa, show sgOf 6 = ⟨[], .d, false⟩ from rfl]
  | true =>
    have hc0 := hc
    simp only [Bool.and_eq_true] at hc
    obtain ⟨hg, hP20⟩ := hc
    obtain ⟨n, rfl, hn20, hl400, hch⟩ := gOk_n hg
    have hgk := keepE_ok P hg
    have hful := fun ho => keepE_full P hg ho
    rw [hc0] at q1
    rw [hgk, hP20, keepE_idem] at q3
    rw [hgk] at q4 q5
    rw [hg] at q2
    simp only [Bool.true_and, Int.toNat_natCast, Int.ofNat_le] at q1 q2 q3 q4 q5
    cases h1 : decide (n ≤ (ordL n L []).length) with
    | false =>
      rw [h1] at q2
      cases h2 : decide (n ≤ (ordL n (keepE P L) []).length) <;> (rw [h2] at q4; simp [code, Tryz.f3, hr, hp1, hp2, hp5, hp6, hp7, q0, q1, q2, q3, q4, q5, hK])
    | true =>
      have h2 : decide (n ≤ (ordL n (keepE P L) []).length) = true := decide_eq_true (hful (of_decide_eq_true h1))
      rw [h1] at q2
      rw [h2] at q4
      simp [code, Tryz.f3, hr, hp1, hp2, hp5, hp6, hp7, q0, q1, q2, q3, q4, q5, hK]
  ) Tryz.f3 Tryz.results3)
end Go.Proofs.YtmfnklfoocebhaaGreatDoor
