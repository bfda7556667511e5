/- A drawn graph. -/
import Derived.Test.YtmfnklfoocebhaaGreatDoorYG24
namespace Go.Proofs.YtmfnklfoocebhaaGreatDoor
open Go Go.Pm Go.Proofs
set_option linter.unusedVariables false
set_option linter.unusedSimpArgs false
set_option maxRecDepth 100000
set_option maxHeartbeats 4000000
def addE (e : Ed) (l : List Ed) : List Ed := bif hasE e l then l else putE e l
theorem addE_len (e : Ed) (l : List Ed) : (addE e l).length ≤ l.length + 1 := by
  unfold addE
  cases hasE e l
  · simp [putE]; omega
  · simp
/-- One edge of a draw. -/
def drE (n : Int) {s : List Int} (x : Cur s × List Ed) : Cur s × List Ed :=
  let f := l1w n x.1
  let t := l1w n f.2
  let y : Ed × Cur s := if t.1 < f.1 then (if (l1w 9 t.2).1 = 0 then ((f.1, t.1), (l1w 9 t.2).2) else ((t.1, f.1), (l1w 9 t.2).2)) else ((f.1, t.1), t.2)
  if y.1.1 = y.1.2 then (if (l1w 9 y.2).1 = 0 then ((l1w 9 y.2).2, addE y.1 x.2) else ((l1w 9 y.2).2, x.2)) else (y.2, addE y.1 x.2)
def drN (n : Int) {s : List Int} : Nat → Cur s × List Ed → Cur s × List Ed
  | 0, x => x
  | k + 1, x => drN n k (drE n x)
theorem drE_len (n : Int) {s : List Int} (x : Cur s × List Ed) : (drE n x).2.length ≤ x.2.length + 1 := by
  have h := fun e => addE_len e x.2
  unfold drE
  dsimp only
  repeat' split
  all_goals first | exact h _ | simp
theorem drN_len (n : Int) {s : List Int} : ∀ (k : Nat) (x : Cur s × List Ed), (drN n k x).2.length ≤ x.2.length + k
  | 0, x => by simp [drN]
  | k + 1, x => by have h1 := drN_len n k (drE n x); have h2 := drE_len n x; simp only [drN]; omega
def drwN {s : List Int} (c : Cur s) : Int := (l1w 9 c).1
def drwX {s : List Int} (c : Cur s) : Cur s × List Ed := drN (drwN c) (if 0 < drwN c then (l1w 14 (l1w 9 c).2).1.toNat else 0) ((l1w 14 (l1w 9 c).2).2, [])
theorem p42 (s : List Int) (c : Cur s) (hs : s.length ≤ 9223372036854775807) : phi C0 (lim C0) 42 [.bp 0 0] [(0, curB s c)] = some (.ag [(.pv false (.sc (.int .i64 (drwN c)))), .ref 18 0 (drwX c).2.length], [(0, curB s (drwX c).1), (18, .row .own 37 2 (eds (drwX c).2))]) := call0 Tryz.func42 (by kernel_rfl) ((show ∀ fn : Func, fn.results = #[.cell 2 25] → globs fn = [0, 3, 4, 5, 19, 6, 40, 54, 2] → lim C0 42 fn [.c (code Tryz.f42)] ⟨_, _⟩ = _ from fun fn hr hg => by
  have hp6 := plan42_6
  simp [opsOf, code, Tryz.f42] at hp6
  have p1 := fun c n h => p18 s c n hs h
  have p2 := fun c n h => p19 s c n hs h
  have hN := l1w_in (n := 9) (by omega) c
  have hM := l1w_in (n := 14) (by omega) (l1w 9 c).2
  simp only [curB] at p1 p2
  simp [code, Tryz.f42, hr, hg, hp6, p1]
  unfold drwX drwN
  generalize (l1w 9 c).1 = N at *
  generalize l1w 14 (l1w 9 c).2 = w at *
  obtain ⟨M, c1⟩ := w
  simp only at hM ⊢
  generalize hK : (if 0 < N then M.toNat else 0) = KK
  refine (loop_to (s0 := ?s1) (fun x => KK - x.1) (fun x => [(5, (.pv false (.sc (.int .i64 ((x.1 : Nat))))))]) (fun x => [(0, curB s x.2.1), (18, .box [(.pv false (.sc (.int .i64 0))), .nl]), (20, .box [(.pv false (.sc (.int .i64 N))), slT 22 x.2.2])] ++ slH 22 37 2 edP x.2.2) (fun x K => K [(5, (.pv false (.sc (.int .i64 ((KK : Nat))))))] ([(0, curB s (drN N (KK - x.1) x.2).1), (18, .box [(.pv false (.sc (.int .i64 0))), .nl]), (20, .box [(.pv false (.sc (.int .i64 N))), slT 22 (drN N (KK - x.1) x.2).2])] ++ slH 22 37 2 edP (drN N (KK - x.1) x.2).2)) (fun x => x.1 ≤ KK ∧ x.2.2.length ≤ x.1) ((0 : Nat), (c1, ([] : List Ed))) ?hc1 ?h01 ?hs1 ?step1).trans ?r1
  case hc1 => simp; rfl
  case h01 => first | (simp; done) | (simp [*]; done) | exact ⟨by simp, ⟨rfl⟩⟩ | grind | (simp; omega)
  case hs1 => first | (simp; done) | (simp [*]; done)
  case r1 =>
    generalize drN N (KK - 0) (c1, []) = y
    obtain ⟨c2, l2⟩ := y
    rcases l2 with _ | ⟨a0, l2⟩
    all_goals simp [hg, hr]
  rintro k ⟨i, c3, l⟩ ⟨hi, hl⟩ ih
  simp at hi hl
  simp [hg]
  by_cases hlt : i < KK
  · have hN0 : 0 < N := by
      by_cases h : 0 < N
      · exact h
      · rw [if_neg h] at hK; omega
    have hM0 : (i : Int) < M := by rw [if_pos hN0] at hK; omega
    have hN9 : N ≤ 256 := by omega
    have hk1 : drN N (KK - i) (c3, l) = drN N (KK - (i + 1)) (drE N (c3, l)) := by
      rw [show KK - i = (KK - (i + 1)) + 1 by omega]
      rfl
    have q1 := p1 c3 N hN9
    rcases hF : l1w N c3 with ⟨f, cf⟩
    rw [hF] at q1
    have q2 := p1 cf N hN9
    rcases hT : l1w N cf with ⟨t, ct⟩
    rw [hT] at q2
    have q3 := p2 ct 9 (by omega)
    rcases hO : l1w 9 ct with ⟨o1, co⟩
    rw [hO] at q3
    have hKK : KK ≤ 13 := by rw [if_pos hN0] at hK; omega
    clear p1 p2
    rw [hk1]
    simp only [curB] at q1 q2 q3
    rcases l with _ | ⟨a0, l⟩
    · by_cases htf : t < f
      · have hne : ¬ f = t := by omega
        have hne' : ¬ t = f := by omega
        by_cases ho : o1 = 0
        · have hdr : drE N (c3, []) = (co, addE (f, t) ([])) := by simp [hg, drE, hF, hT, hO, htf, hne, hne', ho]
          have had : addE (f, t) [] = [(f, t)] := by simp [hg, addE, hasE, putE, plE]
          have a1 := p83_nl (f, t)
          simp only [edTV] at a1
          simp [hg, hM0, hN0, q1, q2, q3, htf, hne, hne', ho, hr, hg, hp6, a1]
          refine (ih.out (i + 1, co, [(f, t)]) _ ?_ ?_ ?_).trans ?_
          · simp [hg]; omega
          · first | (simp [hg]; omega) | (simp [hg, putE_len]; omega)
          · simp [hg]
            try simp (disch := omega) only [wrap_id']
          · rw [hdr, had]
            first | rfl | simp [hg]
        · have hdr : drE N (c3, []) = (co, addE (t, f) ([])) := by simp [hg, drE, hF, hT, hO, htf, hne, hne', ho]
          have had : addE (t, f) [] = [(t, f)] := by simp [hg, addE, hasE, putE, plE]
          have a1 := p83_nl (t, f)
          simp only [edTV] at a1
          simp [hg, hM0, hN0, q1, q2, q3, htf, hne, hne', ho, hr, hg, hp6, a1]
          refine (ih.out (i + 1, co, [(t, f)]) _ ?_ ?_ ?_).trans ?_
          · simp [hg]; omega
          · first | (simp [hg]; omega) | (simp [hg, putE_len]; omega)
          · simp [hg]
            try simp (disch := omega) only [wrap_id']
          · rw [hdr, had]
            first | rfl | simp [hg]
      · by_cases heq : f = t
        · subst heq
          by_cases ho : o1 = 0
          · have hdr : drE N (c3, []) = (co, addE (f, f) ([])) := by simp [hg, drE, hF, hT, hO, htf, ho]
            have had : addE (f, f) [] = [(f, f)] := by simp [hg, addE, hasE, putE, plE]
            have a1 := p83_nl (f, f)
            simp only [edTV] at a1
            simp [hg, hM0, hN0, q1, q2, q3, htf, ho, hr, hg, hp6, a1]
            refine (ih.out (i + 1, co, [(f, f)]) _ ?_ ?_ ?_).trans ?_
            · simp [hg]; omega
            · first | (simp [hg]; omega) | (simp [hg, putE_len]; omega)
            · simp [hg]
              try simp (disch := omega) only [wrap_id']
            · rw [hdr, had]
              first | rfl | simp [hg]
          · have hdr : drE N (c3, []) = (co, []) := by simp [hg, drE, hF, hT, hO, htf, ho]
            simp [hg, hM0, hN0, q1, q2, q3, htf, ho, hr, hg, hp6]
            refine (ih.out (i + 1, co, []) _ ?_ ?_ ?_).trans ?_
            · simp [hg]; omega
            · first | (simp [hg]; omega) | (simp [hg, putE_len]; omega)
            · simp [hg]
              try simp (disch := omega) only [wrap_id']
            · rw [hdr]
              first | rfl | simp [hg]
        · have hdr : drE N (c3, []) = (ct, addE (f, t) ([])) := by simp [hg, drE, hF, hT, hO, htf, heq]
          have had : addE (f, t) [] = [(f, t)] := by simp [hg, addE, hasE, putE, plE]
          have a1 := p83_nl (f, t)
          simp only [edTV] at a1
          simp [hg, hM0, hN0, q1, q2, q3, htf, heq, hr, hg, hp6, a1]
          refine (ih.out (i + 1, ct, [(f, t)]) _ ?_ ?_ ?_).trans ?_
          · simp [hg]; omega
          · first | (simp [hg]; omega) | (simp [hg, putE_len]; omega)
          · simp [hg]
            try simp (disch := omega) only [wrap_id']
          · rw [hdr, had]
            first | rfl | simp [hg]
    · simp at hl
      by_cases htf : t < f
      · have hne : ¬ f = t := by omega
        have hne' : ¬ t = f := by omega
        by_cases ho : o1 = 0
        · cases hh : hasE (f, t) (a0 :: l) with
          | true =>
            have hdr : drE N (c3, a0 :: l) = (co, addE (f, t) (a0 :: l)) := by simp [hg, drE, hF, hT, hO, htf, hne, hne', ho]
            have had : addE (f, t) (a0 :: l) = a0 :: l := by simp [hg, addE, hh]
            have a1 := p83 (f, t) (a0 :: l) (by simp [hg]; omega)
            simp only [edTV, hh, cond_true, cond_false] at a1
            simp only [List.length_cons] at a1
            simp [hg, hM0, hN0, q1, q2, q3, htf, hne, hne', ho, hr, hg, hp6, a1]
            refine (ih.out (i + 1, co, a0 :: l) _ ?_ ?_ ?_).trans ?_
            · simp [hg]; omega
            · first | (simp [hg]; omega) | (simp [hg, putE_len]; omega)
            · simp [hg]
              try simp (disch := omega) only [wrap_id']
            · rw [hdr, had]
              first | rfl | simp [hg]
          | false =>
            have hdr : drE N (c3, a0 :: l) = (co, addE (f, t) (a0 :: l)) := by simp [hg, drE, hF, hT, hO, htf, hne, hne', ho]
            have had : addE (f, t) (a0 :: l) = putE (f, t) (a0 :: l) := by simp [hg, addE, hh]
            have a1 := p83 (f, t) (a0 :: l) (by simp [hg]; omega)
            simp only [edTV, hh, cond_true, cond_false] at a1
            simp only [List.length_cons] at a1
            simp [hg, hM0, hN0, q1, q2, q3, htf, hne, hne', ho, hr, hg, hp6, a1]
            refine (ih.out (i + 1, co, putE (f, t) (a0 :: l)) _ ?_ ?_ ?_).trans ?_
            · simp [hg]; omega
            · first | (simp [hg]; omega) | (simp [hg, putE_len]; omega)
            · simp [hg]
              try simp (disch := omega) only [wrap_id']
            · rw [hdr, had]
              first | rfl | simp [hg]
        · cases hh : hasE (t, f) (a0 :: l) with
          | true =>
            have hdr : drE N (c3, a0 :: l) = (co, addE (t, f) (a0 :: l)) := by simp [hg, drE, hF, hT, hO, htf, hne, hne', ho]
            have had : addE (t, f) (a0 :: l) = a0 :: l := by simp [hg, addE, hh]
            have a1 := p83 (t, f) (a0 :: l) (by simp [hg]; omega)
            simp only [edTV, hh, cond_true, cond_false] at a1
            simp only [List.length_cons] at a1
            simp [hg, hM0, hN0, q1, q2, q3, htf, hne, hne', ho, hr, hg, hp6, a1]
            refine (ih.out (i + 1, co, a0 :: l) _ ?_ ?_ ?_).trans ?_
            · simp [hg]; omega
            · first | (simp [hg]; omega) | (simp [hg, putE_len]; omega)
            · simp [hg]
              try simp (disch := omega) only [wrap_id']
            · rw [hdr, had]
              first | rfl | simp [hg]
          | false =>
            have hdr : drE N (c3, a0 :: l) = (co, addE (t, f) (a0 :: l)) := by simp [hg, drE, hF, hT, hO, htf, hne, hne', ho]
            have had : addE (t, f) (a0 :: l) = putE (t, f) (a0 :: l) := by simp [hg, addE, hh]
            have a1 := p83 (t, f) (a0 :: l) (by simp [hg]; omega)
            simp only [edTV, hh, cond_true, cond_false] at a1
            simp only [List.length_cons] at a1
            simp [hg, hM0, hN0, q1, q2, q3, htf, hne, hne', ho, hr, hg, hp6, a1]
            refine (ih.out (i + 1, co, putE (t, f) (a0 :: l)) _ ?_ ?_ ?_).trans ?_
            · simp [hg]; omega
            · first | (simp [hg]; omega) | (simp [hg, putE_len]; omega)
            · simp [hg]
              try simp (disch := omega) only [wrap_id']
            · rw [hdr, had]
              first | rfl | simp [hg]
      · by_cases heq : f = t
        · subst heq
          by_cases ho : o1 = 0
          · cases hh : hasE (f, f) (a0 :: l) with
            | true =>
              have hdr : drE N (c3, a0 :: l) = (co, addE (f, f) (a0 :: l)) := by simp [hg, drE, hF, hT, hO, htf, ho]
              have had : addE (f, f) (a0 :: l) = a0 :: l := by simp [hg, addE, hh]
              have a1 := p83 (f, f) (a0 :: l) (by simp [hg]; omega)
              simp only [edTV, hh, cond_true, cond_false] at a1
              simp only [List.length_cons] at a1
              simp [hg, hM0, hN0, q1, q2, q3, htf, ho, hr, hg, hp6, a1]
              refine (ih.out (i + 1, co, a0 :: l) _ ?_ ?_ ?_).trans ?_
              · simp [hg]; omega
              · first | (simp [hg]; omega) | (simp [hg, putE_len]; omega)
              · simp [hg]
                try simp (disch := omega) only [wrap_id']
              · rw [hdr, had]
                first | rfl | simp [hg]
            | false =>
              have hdr : drE N (c3, a0 :: l) = (co, addE (f, f) (a0 :: l)) := by simp [hg, drE, hF, hT, hO, htf, ho]
              have had : addE (f, f) (a0 :: l) = putE (f, f) (a0 :: l) := by simp [hg, addE, hh]
              have a1 := p83 (f, f) (a0 :: l) (by simp [hg]; omega)
              simp only [edTV, hh, cond_true, cond_false] at a1
              simp only [List.length_cons] at a1
              simp [hg, hM0, hN0, q1, q2, q3, htf, ho, hr, hg, hp6, a1]
              refine (ih.out (i + 1, co, putE (f, f) (a0 :: l)) _ ?_ ?_ ?_).trans ?_
              · simp [hg]; omega
              · first | (simp [hg]; omega) | (simp [hg, putE_len]; omega)
              · simp [hg]
                try simp (disch := omega) only [wrap_id']
              · rw [hdr, had]
                first | rfl | simp [hg]
          · have hdr : drE N (c3, a0 :: l) = (co, a0 :: l) := by simp [hg, drE, hF, hT, hO, htf, ho]
            simp [hg, hM0, hN0, q1, q2, q3, htf, ho, hr, hg, hp6]
            refine (ih.out (i + 1, co, a0 :: l) _ ?_ ?_ ?_).trans ?_
            · simp [hg]; omega
            · first | (simp [hg]; omega) | (simp [hg, putE_len]; omega)
            · simp [hg]
              try simp (disch := omega) only [wrap_id']
            · rw [hdr]
              first | rfl | simp [hg]
        · cases hh : hasE (f, t) (a0 :: l) with
          | true =>
            have hdr : drE N (c3, a0 :: l) = (ct, addE (f, t) (a0 :: l)) := by simp [hg, drE, hF, hT, hO, htf, heq]
            have had : addE (f, t) (a0 :: l) = a0 :: l := by simp [hg, addE, hh]
            have a1 := p83 (f, t) (a0 :: l) (by simp [hg]; omega)
            simp only [edTV, hh, cond_true, cond_false] at a1
            simp only [List.length_cons] at a1
            simp [hg, hM0, hN0, q1, q2, q3, htf, heq, hr, hg, hp6, a1]
            refine (ih.out (i + 1, ct, a0 :: l) _ ?_ ?_ ?_).trans ?_
            · simp [hg]; omega
            · first | (simp [hg]; omega) | (simp [hg, putE_len]; omega)
            · simp [hg]
              try simp (disch := omega) only [wrap_id']
            · rw [hdr, had]
              first | rfl | simp [hg]
          | false =>
            have hdr : drE N (c3, a0 :: l) = (ct, addE (f, t) (a0 :: l)) := by simp [hg, drE, hF, hT, hO, htf, heq]
            have had : addE (f, t) (a0 :: l) = putE (f, t) (a0 :: l) := by simp [hg, addE, hh]
            have a1 := p83 (f, t) (a0 :: l) (by simp [hg]; omega)
            simp only [edTV, hh, cond_true, cond_false] at a1
            simp only [List.length_cons] at a1
            simp [hg, hM0, hN0, q1, q2, q3, htf, heq, hr, hg, hp6, a1]
            refine (ih.out (i + 1, ct, putE (f, t) (a0 :: l)) _ ?_ ?_ ?_).trans ?_
            · simp [hg]; omega
            · first | (simp [hg]; omega) | (simp [hg, putE_len]; omega)
            · simp [hg]
              try simp (disch := omega) only [wrap_id']
            · rw [hdr, had]
              first | rfl | simp [hg]
  · have e : i = KK := by omega
    subst e
    by_cases hM0 : (i : Int) < M
    · have hN0 : ¬ 0 < N := fun h => by rw [if_pos h] at hK; omega
      rcases l with _ | ⟨a0, l⟩ <;> simp [hg, hM0, hN0, drN]
    · rcases l with _ | ⟨a0, l⟩ <;> simp [hg, hM0, drN]
  ) Tryz.f42 Tryz.results42 gl42)
end Go.Proofs.YtmfnklfoocebhaaGreatDoor
