/- Drawn graphs, bent. -/
import Derived.Test.YtopoaemlbnkhgaaG27
namespace Go.Proofs.Ytopoaemlbnkhgaa
open Go Go.Pm Go.Proofs
set_option linter.unusedVariables false
set_option linter.unusedSimpArgs false
def bentN : List Int := [-1, 0, 20, 21]
def bent {s : List Int} (c : Cur s) : (Int × List Ed) × Cur s :=
  let o := l1w 8 (drwX c).1
  let k := l1w 3 o.2
  if o.1 = 0 then (if k.1 = 0 then ((bentN.getD (l1w 4 k.2).1.toNat 0, (drwX c).2), (l1w 4 k.2).2) else if k.1 = 1 then ((drwN c, (drwX c).2 ++ [((l1w 9 k.2).1, (l1w 9 (l1w 9 k.2).2).1)]), (l1w 9 (l1w 9 k.2).2).2) else ((drwN c, (drwX c).2 ++ [(-1, 0)]), k.2)) else ((drwN c, (drwX c).2), o.2)
theorem drwX_len {s : List Int} (c : Cur s) : (drwX c).2.length ≤ 13 := by
  have h := drN_len (drwN c) (if 0 < drwN c then (l1w 14 (l1w 9 c).2).1.toNat else 0) ((l1w 14 (l1w 9 c).2).2, [])
  have hM := l1w_in (n := 14) (by omega) (l1w 9 c).2
  unfold drwX
  simp only [List.length_nil, Nat.zero_add] at h
  refine Nat.le_trans h ?_
  split <;> omega
theorem bent_len {s : List Int} (c : Cur s) : (bent c).1.2.length ≤ 14 := by
  have h := drwX_len c
  unfold bent
  dsimp only
  repeat' split
  all_goals simp
  all_goals omega
set_option maxRecDepth 100000 in
set_option maxHeartbeats 4000000 in
theorem e54 (fn : Func) (hr : fn.results = #[.cell 2 34]) (s : List Int) (c : Cur s) (hs : s.length ≤ 9223372036854775807) : lim C0 54 fn [.c (code Try.f54)] ⟨number [.bp 0 0] 0, [(0, curB s c)]⟩ = some (.ag [(.pv false (.sc (.int .i64 ((bent c).1.1)))), .ref 18 0 (bent c).1.2.length], [(0, curB s (bent c).2), (18, .row .own 42 2 (eds (bent c).1.2))]) := by
  have hp8 := plan54_8
  simp [opsOf, code, Try.f54] at hp8
  have hln := drwX_len c
  have q0 := p81 s c hs
  unfold bent
  dsimp only
  generalize drwX c = X at *
  generalize drwN c = N at *
  obtain ⟨c1, L⟩ := X
  have q1 := p74 s c1 8 hs (by omega)
  rcases hO : l1w 8 c1 with ⟨o, c2⟩
  rw [hO] at q1
  have q2 := p73 s c2 3 hs (by omega)
  rcases hK : l1w 3 c2 with ⟨k, c3⟩
  rw [hK] at q2
  have q3 := fun b => p82 s c3 b bentN hs (by simp [bentN]) (by simp [bentN])
  have q4 := p73 s c3 9 hs (by omega)
  rcases hT : l1w 9 c3 with ⟨f, c4⟩
  rw [hT] at q4
  have q5 := p73 s c4 9 hs (by omega)
  rcases hU : l1w 9 c4 with ⟨t, c5⟩
  rw [hU] at q5
  have hb4 : ((bentN.length : Nat) : Int) = 4 := rfl
  rw [hb4] at q3
  simp only [curB] at q0 q1 q2 q3 q4 q5
  simp only at hln
  have g1 : (L.length + 1) * 16 ≤ Pm.roomBytes := by unfold Pm.roomBytes; omega
  have g2 : L.length ≤ 9223372036854775806 := by omega
  have e3 : nums .i64 bentN = [[.sc (.int .i64 (-1))], [.sc (.int .i64 0)], [.sc (.int .i64 20)], [.sc (.int .i64 21)]] := rfl
  simp only [e3] at q3
  simp [code, Try.f54, hr, hp8, q0, q1]
  by_cases ho : o = 0
  · simp [ho, q2, hr, hp8, hr]
    by_cases hk : k = 0
    · simp [hk, hr, hp8, hr, q3]
    · by_cases hk1 : k = 1
      · simp [hk, hk1, hr, hp8, hr, q4, q5, g1, g2]
      · simp [hk, hk1, hr, hp8, hr, g1, g2]
  · simp [ho, hr, hp8, hr]
theorem p54 (s : List Int) (c : Cur s) (hs : s.length ≤ 9223372036854775807) : phi C0 (lim C0) 54 [.bp 0 0] [(0, curB s c)] = some (.ag [(.pv false (.sc (.int .i64 ((bent c).1.1)))), .ref 18 0 (bent c).1.2.length], [(0, curB s (bent c).2), (18, .row .own 42 2 (eds (bent c).1.2))]) := call0 Try.func54 (by kernel_rfl) (e54 Try.f54 Try.results54 s c hs)
set_option maxRecDepth 100000 in
set_option maxHeartbeats 4000000 in
theorem e19 (fn : Func) (hr : fn.results = #[.cell 2 34]) (s : List Int) (hs : s.length ≤ 9223372036854775807) : lim C0 19 fn [.c (code Try.f19)] ⟨number [.pv false (.sl (nums .u8 s))] 0, []⟩ = some (.ag [(.pv false (.sc (.int .i64 ((bent (cur0 s)).1.1)))), .ref 16 0 (bent (cur0 s)).1.2.length], [(16, .row .own 42 2 (eds (bent (cur0 s)).1.2))]) := by
  have p1 := p55 s hs
  have p2 := p54 s (cur0 s) hs
  simp only [curB] at p1 p2
  simp [code, Try.f19, hr, p1, p2]
theorem p19 (s : List Int) (hs : s.length ≤ 9223372036854775807) : phi C0 (lim C0) 19 [.pv false (.sl (nums .u8 s))] [] = some (.ag [(.pv false (.sc (.int .i64 ((bent (cur0 s)).1.1)))), .ref 16 0 (bent (cur0 s)).1.2.length], [(16, .row .own 42 2 (eds (bent (cur0 s)).1.2))]) := call0 Try.func19 (by kernel_rfl) (e19 Try.f19 Try.results19 s hs)
end Go.Proofs.Ytopoaemlbnkhgaa
