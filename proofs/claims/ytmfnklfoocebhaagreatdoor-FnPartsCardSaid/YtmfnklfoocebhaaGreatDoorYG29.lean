/- Drawn graphs with some of their ones. -/
import Derived.Test.YtmfnklfoocebhaaGreatDoorYG28
namespace Go.Proofs.YtmfnklfoocebhaaGreatDoor
open Go Go.Pm Go.Proofs
set_option linter.unusedVariables false
set_option linter.unusedSimpArgs false
set_option maxRecDepth 100000
set_option maxHeartbeats 4000000
theorem drwN_in {s : List Int} (c : Cur s) : 0 ≤ drwN c ∧ drwN c < 9 := l1w_in (by omega) c
theorem bent_N {s : List Int} (c : Cur s) : -1 ≤ (bent c).1.1 ∧ (bent c).1.1 ≤ 21 := by
  have h := drwN_in c
  have hb : ∀ i : Nat, -1 ≤ bentN.getD i 0 ∧ bentN.getD i 0 ≤ 21 := fun i => by
    match i with
    | 0 => decide
    | 1 => decide
    | 2 => decide
    | 3 => decide
    | i + 4 => simp [bentN]
  unfold bent
  dsimp only
  split
  · split
    · exact hb _
    · split
      · simp; omega
      · simp; omega
  · simp; omega
def frS (N : Int) {s : List Int} : Nat → Cur s × List Int → Cur s × List Int
  | 0, x => x
  | k + 1, x => frS N k ((l1w (N + 1) x.1).2, x.2 ++ [(l1w (N + 1) x.1).1])
theorem frS_len (N : Int) {s : List Int} : ∀ (k : Nat) (x : Cur s × List Int), (frS N k x).2.length = x.2.length + k
  | 0, _ => rfl
  | k + 1, x => by simp [frS, frS_len N k]; omega
/-- Some that are told. -/
def drF {s : List Int} (c : Cur s) : List Int :=
  let x := frS (bent c).1.1 (l1w 3 (bent c).2).1.toNat ((l1w 3 (bent c).2).2, [])
  if (l1w 20 x.1).1 = 0 then x.2 ++ [-1] else x.2
theorem drF_len {s : List Int} (c : Cur s) : (drF c).length ≤ 3 := by
  have h := frS_len (bent c).1.1 (l1w 3 (bent c).2).1.toNat ((l1w 3 (bent c).2).2, [])
  have hM := l1w_in (n := 3) (by omega) (bent c).2
  unfold drF
  dsimp only
  simp at h
  split <;> simp [h] <;> omega
theorem p9 (s : List Int) (hs : s.length ≤ 9223372036854775807) : phi C0 (lim C0) 9 [.pv false (.sl (nums .u8 s))] [] = some (.tu [.ag [(.pv false (.sc (.int .i64 ((bent (cur0 s)).1.1)))), .ref 16 0 (bent (cur0 s)).1.2.length], .ref 18 0 (drF (cur0 s)).length], [(16, .row .own 37 2 (eds (bent (cur0 s)).1.2)), (18, .row .own 3 1 (nums .i64 (drF (cur0 s))))]) := call0 Tryz.func9 (by kernel_rfl) ((show ∀ fn : Func, fn.results = #[.cell 2 25, .tmp 3] → globs fn = [0, 4, 7, 8, 17, 5, 6, 29, 2, 3] → lim C0 9 fn [.c (code Tryz.f9)] ⟨_, _⟩ = _ from fun fn hr hg => by
  have hp11 := plan9_11
  simp [opsOf, code, Tryz.f9] at hp11
  have p1 := p16 s hs
  have p2 := p17 s (cur0 s) hs
  have p3 := fun c n h => p18 s c n hs h
  have p4 := fun c n h => p19 s c n hs h
  have hN := bent_N (cur0 s)
  have hM := l1w_in (n := 3) (by omega) (bent (cur0 s)).2
  simp only [curB] at p1 p2 p3 p4
  simp [code, Tryz.f9, hr, hg, hp11, p1, p2, p3]
  unfold drF
  dsimp only
  clear p1 p2
  generalize bent (cur0 s) = B at *
  obtain ⟨⟨N, E⟩, c0⟩ := B
  simp only at hN hM ⊢
  generalize l1w 3 c0 = w at *
  obtain ⟨M, c1⟩ := w
  simp only at hM ⊢
  generalize hK : M.toNat = KK
  refine (loop_to (s0 := ?s1) (fun x => KK - x.1) (fun x => [(6, slT 24 x.2.2), (8, (.pv false (.sc (.int .i64 ((x.1 : Nat))))))]) (fun x => [(16, .box [(.pv false (.sc (.int .i64 0))), .nl]), (18, curB s x.2.1), (20, .box [(.pv false (.sc (.int .i64 N))), .ref 22 0 E.length]), (22, .row .own 37 2 (eds E))] ++ slH 24 3 1 (numP .i64) x.2.2) (fun x K => K [(6, slT 24 (frS N (KK - x.1) x.2).2), (8, (.pv false (.sc (.int .i64 ((KK : Nat))))))] ([(16, .box [(.pv false (.sc (.int .i64 0))), .nl]), (18, curB s (frS N (KK - x.1) x.2).1), (20, .box [(.pv false (.sc (.int .i64 N))), .ref 22 0 E.length]), (22, .row .own 37 2 (eds E))] ++ slH 24 3 1 (numP .i64) (frS N (KK - x.1) x.2).2)) (fun x => x.1 ≤ KK ∧ x.2.2.length ≤ x.1) ((0 : Nat), (c1, ([] : List Int))) ?hc1 ?h01 ?hs1 ?step1).trans ?r1
  case hc1 => simp; rfl
  case h01 => first | (simp; done) | (simp [*]; done) | exact ⟨by simp, ⟨rfl⟩⟩ | grind | (simp; omega)
  case hs1 => first | (simp; done) | (simp [*]; done)
  case r1 =>
    have hl := frS_len N KK (c1, [])
    rw [Nat.sub_zero]
    generalize frS N KK (c1, []) = y at *
    obtain ⟨c2, l2⟩ := y
    simp only at hl ⊢
    have q := p4 c2 20 (by omega)
    rcases hO : l1w 20 c2 with ⟨o, c3⟩
    rw [hO] at q
    simp only at q
    have g1 : (l2.length + 1) * 8 ≤ Pm.roomBytes := by unfold Pm.roomBytes; simp at hl; omega
    have g2 : l2.length + 1 ≤ 9223372036854775807 := by simp at hl; omega
    clear hl
    rcases l2 with _ | ⟨a0, l2⟩
    all_goals simp at g1 g2
    all_goals simp [hg, q]
    · by_cases ho : o = 0
      · simp [hg, ho, hr, g1, hr, hg, hp11]
      · simp [hg, ho, hr, hr, hg, hp11]
    · by_cases ho : o = 0
      · simp [hg, ho, hr, g1, g2, hr, hg, hp11]
      · simp [hg, ho, hr, hr, hg, hp11]
  rintro k ⟨i, c2, l⟩ ⟨hi, hl⟩ ih
  simp at hi hl
  have q := p3 c2 (N + 1) (by omega)
  have hw : IntKind.i64.wrap (N + 1) = N + 1 := wrap_id' (by omega)
  have g1 : (l.length + 1) * 8 ≤ Pm.roomBytes := by unfold Pm.roomBytes; omega
  have g2 : l.length + 1 ≤ 9223372036854775807 := by omega
  by_cases hlt : i < KK
  · have hM0 : (i : Int) < M := by omega
    have hk1 : frS N (KK - i) (c2, l) = frS N (KK - (i + 1)) ((l1w (N + 1) c2).2, l ++ [(l1w (N + 1) c2).1]) := by
      rw [show KK - i = (KK - (i + 1)) + 1 by omega]
      rfl
    simp only [hk1]
    rcases hF : l1w (N + 1) c2 with ⟨f, cf⟩
    rw [hF] at q
    simp only at q
    rcases l with _ | ⟨a0, l⟩
    all_goals simp at g1 g2
    all_goals try simp at hl
    · simp [hg, hM0, hw, q, g1, hr, hg, hp11]
      refine (ih.out (i + 1, cf, [f]) _ ?_ ?_ ?_).trans ?_
      · simp [hg]; omega
      · simp [hg]; omega
      · simp [hg]
        try simp (disch := omega) only [wrap_id']
      · first | rfl | simp [hg]
    · simp [hg, hM0, hw, q, g1, g2, hr, hg, hp11]
      refine (ih.out (i + 1, cf, a0 :: (l ++ [f])) _ ?_ ?_ ?_).trans ?_
      · simp [hg]; omega
      · simp [hg]; omega
      · simp [hg]
        try simp (disch := omega) only [wrap_id']
      · first | rfl | simp [hg]
  · have e : i = KK := by omega
    subst e
    have hM0 : ¬ (i : Int) < M := by omega
    rcases l with _ | ⟨a0, l⟩ <;> simp [hg, hM0, frS]
  ) Tryz.f9 Tryz.results9 gl9)
end Go.Proofs.YtmfnklfoocebhaaGreatDoor
