/- Drawn graphs, bent. -/
import Derived.Test.YtmfnklfoocebhaaGreatDoorYG27
namespace Go.Proofs.YtmfnklfoocebhaaGreatDoor
open Go Go.Pm Go.Proofs
set_option linter.unusedVariables false
set_option linter.unusedSimpArgs false
set_option maxRecDepth 100000
set_option maxHeartbeats 4000000
def bentN : List Int := [-1, 0, 20, 21]
def bent {s : List Int} (c : Cur s) : (Int × List Ed) × Cur s :=
  let o := l1w 8 (drwX c).1
  let k := l1w 3 o.2
  if o.1 = 0 then (if k.1 = 0 then ((bentN.getD (l1w 4 k.2).1.toNat 0, (drwX c).2), (l1w 4 k.2).2) else if k.1 = 1 then ((drwN c, (drwX c).2 ++ [((l1w 9 k.2).1, (l1w 9 (l1w 9 k.2).2).1)]), (l1w 9 (l1w 9 k.2).2).2) else ((drwN c, (drwX c).2 ++ [(-1, 0)]), k.2)) else ((drwN c, (drwX c).2), o.2)
theorem drwX_len {s : List Int} (c : Cur s) : (drwX c).2.length ≤ 13 := by
  have h := drN_len (drwN c) (if 0 < drwN c then (l1w 14 (l1w 9 c).2).1.toNat else 0) ((l1w 14 (l1w 9 c).2).2, [])
  have hM := l1w_in (n := 14) (by omega) (l1w 9 c).2
  unfold drwX
  simp only [List.length_nil, Nat.zero_add] at h
  refine Nat.le_trans h ?_
  split <;> omega
theorem bent_len {s : List Int} (c : Cur s) : (bent c).1.2.length ≤ 14 := by
  have h := drwX_len c
  unfold bent
  dsimp only
  repeat' split
  all_goals simp
  all_goals omega
theorem p17 (s : List Int) (c : Cur s) (hs : s.length ≤ 9223372036854775807) : phi C0 (lim C0) 17 [.bp 0 0] [(0, curB s c)] = some (.ag [(.pv false (.sc (.int .i64 ((bent c).1.1)))), .ref 18 0 (bent c).1.2.length], [(0, curB s (bent c).2), (18, .row .own 37 2 (eds (bent c).1.2))]) := call0 Tryz.func17 (by kernel_rfl) ((show ∀ fn : Func, fn.results = #[.cell 2 25] → lim C0 17 fn [.c (code Tryz.f17)] ⟨_, _⟩ = _ from fun fn hr => by
  have hp8 := plan17_8
  simp [opsOf, code, Tryz.f17] at hp8
  have hln := drwX_len c
  have q0 := p42 s c hs
  unfold bent
  dsimp only
  generalize drwX c = X at *
  generalize drwN c = N at *
  obtain ⟨c1, L⟩ := X
  have q1 := p19 s c1 8 hs (by omega)
  rcases hO : l1w 8 c1 with ⟨o, c2⟩
  rw [hO] at q1
  have q2 := p18 s c2 3 hs (by omega)
  rcases hK : l1w 3 c2 with ⟨k, c3⟩
  rw [hK] at q2
  have q3 := fun b => p43 s c3 b bentN hs (by simp [bentN]) (by simp [bentN])
  have q4 := p18 s c3 9 hs (by omega)
  rcases hT : l1w 9 c3 with ⟨f, c4⟩
  rw [hT] at q4
  have q5 := p18 s c4 9 hs (by omega)
  rcases hU : l1w 9 c4 with ⟨t, c5⟩
  rw [hU] at q5
  have hb4 : ((bentN.length : Nat) : Int) = 4 := rfl
  rw [hb4] at q3
  simp only [curB] at q0 q1 q2 q3 q4 q5
  simp only at hln
  have g1 : (L.length + 1) * 16 ≤ Pm.roomBytes := by unfold Pm.roomBytes; omega
  have g2 : L.length ≤ 9223372036854775806 := by omega
  have e3 : nums .i64 bentN = [[.sc (.int .i64 (-1))], [.sc (.int .i64 0)], [.sc (.int .i64 20)], [.sc (.int .i64 21)]] := rfl
  simp only [e3] at q3
  simp [code, Tryz.f17, hr, hp8, q0, q1]
  by_cases ho : o = 0
  · simp [ho, q2, hr, hp8, hr]
    by_cases hk : k = 0
    · simp [hk, hr, hp8, hr, q3]
    · by_cases hk1 : k = 1
      · simp [hk, hk1, hr, hp8, hr, q4, q5, g1, g2]
      · simp [hk, hk1, hr, hp8, hr, g1, g2]
  · simp [ho, hr, hp8, hr]
  ) Tryz.f17 Tryz.results17)
end Go.Proofs.YtmfnklfoocebhaaGreatDoor
