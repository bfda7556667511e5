/- A drawn graph. -/
import Derived.Test.YtmfnklfoocebhaaGreatDoorYG23
namespace Go.Proofs.YtmfnklfoocebhaaGreatDoor
open Go Go.Pm Go.Proofs
set_option linter.unusedVariables false
set_option linter.unusedSimpArgs false
set_option maxRecDepth 100000
set_option maxHeartbeats 4000000
/-- Where an edge belongs. -/
def plE (e : Ed) : List Ed → Nat → Nat
  | [], i => i
  | x :: l, i => bif edLess x e then plE e l (i + 1) else i
theorem plE_le (e : Ed) : ∀ (l : List Ed) (i : Nat), i ≤ plE e l i ∧ plE e l i ≤ i + l.length
  | [], i => by simp [plE]
  | x :: l, i => by
    have := plE_le e l (i + 1)
    simp only [plE, List.length_cons]
    cases edLess x e <;> simp <;> omega
/-- Does it stand there? -/
def hasE (e : Ed) (l : List Ed) : Bool := match l[plE e l 0]? with
  | some x => decide (x = e)
  | none => false
def putE (e : Ed) (l : List Ed) : List Ed := l.take (plE e l 0) ++ e :: l.drop (plE e l 0)
theorem p83_nl (e : Ed) : phi C0 (lim C0) 83 [.nl, edTV e] [] = some (.ref 16 0 1, [(16, .row .own 37 2 (eds [e]))]) := call0 Tryz.func83 (by kernel_rfl) ((show ∀ fn : Func, fn.results = #[.tmp 4] → globs fn = [1, 3, 5, 0, 18, 32, 6, 4] → lim C0 83 fn [.c (code Tryz.f83)] ⟨_, _⟩ = _ from fun fn hr hg => by
  have hp2 := plan83_2
  simp [opsOf, code, Tryz.f83] at hp2
  have hp4 := plan83_4
  simp [opsOf, code, Tryz.f83] at hp4
  have g1 : (16 : Nat) ≤ Pm.roomBytes := by unfold Pm.roomBytes; omega
  simp [code, Tryz.f83, hr, hg, hp2, hp4]
  refine (loop_to (s0 := ?s1) (fun i => 0 - i) (fun i => [(5, (.pv false (.sc (.int .i64 ((i : Nat))))))]) (fun i => [(16, .box [(.pv false (.sc (.int .i64 e.1))), (.pv false (.sc (.int .i64 e.2)))])]) (fun i K => K [(5, (.pv false (.sc (.int .i64 0))))] [(16, .box [(.pv false (.sc (.int .i64 e.1))), (.pv false (.sc (.int .i64 e.2)))])]) (fun i => i = 0) 0 ?hc1 ?h01 ?hs1 ?step1).trans ?r1
  case hc1 => simp; rfl
  case h01 => first | (simp; done) | (simp [*]; done) | exact ⟨by simp, ⟨rfl⟩⟩ | grind | (simp; omega)
  case hs1 => first | (simp; done) | (simp [*]; done)
  case r1 => simp [hg, hr, g1, hr, hg, hp2, hp4]
  intro k i hi ih
  subst hi
  simp [hr, hg, hp2, hp4]
  ) Tryz.f83 Tryz.results83 gl83)
theorem p83 (e : Ed) (l : List Ed) (hl : l.length ≤ 100) : phi C0 (lim C0) 83 [.ref 0 0 l.length, edTV e] [(0, .row .io 37 2 (eds l))] = some (bif hasE e l then (.ref 0 0 l.length, [(0, .row .io 37 2 (eds l))]) else (.ref 18 0 (l.length + 1), [(0, .row .io 37 2 (eds l)), (18, .row .own 37 2 (eds (putE e l)))])) := call0 Tryz.func83 (by kernel_rfl) ((show ∀ fn : Func, fn.results = #[.tmp 4] → globs fn = [1, 3, 5, 0, 18, 32, 6, 4] → lim C0 83 fn [.c (code Tryz.f83)] ⟨_, _⟩ = _ from fun fn hr hg => by
  have hp2 := plan83_2
  simp [opsOf, code, Tryz.f83] at hp2
  have hp4 := plan83_4
  simp [opsOf, code, Tryz.f83] at hp4
  have p1 := p143
  simp only [edTV] at p1
  simp [code, Tryz.f83, hr, hg, hp2, hp4]
  refine (loop_to (s0 := ?s2) (fun i => l.length - i) (fun i => [(5, (.pv false (.sc (.int .i64 ((i : Nat))))))]) (fun i => [(0, .row .io 37 2 (eds l)), (18, .box [(.pv false (.sc (.int .i64 e.1))), (.pv false (.sc (.int .i64 e.2)))])]) (fun i K => K [(5, (.pv false (.sc (.int .i64 ((plE e (l.drop i) i : Nat))))))] [(0, .row .io 37 2 (eds l)), (18, .box [(.pv false (.sc (.int .i64 e.1))), (.pv false (.sc (.int .i64 e.2)))])]) (fun i => i ≤ l.length) 0 ?hc2 ?h02 ?hs2 ?step2).trans ?r2
  case hc2 => simp; rfl
  case h02 => first | (simp; done) | (simp [*]; done) | exact ⟨by simp, ⟨rfl⟩⟩ | grind | (simp; omega)
  case hs2 => first | (simp; done) | (simp [*]; done)
  case r2 =>
    have hp := (plE_le e l 0).2
    simp at hp
    have hh : hasE e l = (match l[plE e l 0]? with | some x => decide (x = e) | none => false) := rfl
    have hu : putE e l = l.take (plE e l 0) ++ e :: l.drop (plE e l 0) := rfl
    rw [List.drop_zero, hh, hu]
    generalize plE e l 0 = p at *
    clear hh hu
    have g1 : p * 16 ≤ Pm.roomBytes := by unfold Pm.roomBytes; omega
    have g2 : (p + 1) * 16 ≤ Pm.roomBytes := by unfold Pm.roomBytes; omega
    have c6 : p + 1 + (l.length - p) = l.length + 1 := by omega
    have g3 : (l.length + 1) * 16 ≤ Pm.roomBytes := by unfold Pm.roomBytes; omega
    have g4 : p ≤ 9223372036854775807 := by omega
    have g5 : p ≤ 9223372036854775806 := by omega
    have g6 : l.length ≤ 9223372036854775806 := by omega
    have c1 : min p l.length = p := by omega
    have c2 : (∀ (r : List PV), r ∈ rws edP (List.take p l) → r.length = 2) = True := eq_true (edP_all _)
    have c3 : (∀ (r : List PV), r ∈ rws edP (List.drop p l) → r.length = 2) = True := eq_true (edP_all _)
    have c4 : p + (l.length - p) ≤ l.length := by omega
    have c5 : List.take (l.length - p) (List.drop p l) = List.drop p l := List.take_of_length_le (by simp [hg])
    simp [hr, hg, hp2, hp4]
    (first | refine ifL_cases (fun h => ?_) (fun h => ?_) | refine gI_cases' (fun h => ?_) (fun h => ?_) | refine gI_cases (fun h => ?_) (fun h => ?_) | refine dI_cases' (fun h => ?_) (fun h => ?_) | refine dI_cases (fun h => ?_) (fun h => ?_)) <;> first | replace h := of_decide_eq_true h | replace h := of_decide_eq_false h | skip
    · have e1 : l[p]? = some l[p] := List.getElem?_eq_getElem h
      have e2 : (decide (l[p].1 = e.1) && decide (l[p].2 = e.2)) = decide (l[p] = e) := by
        rw [Bool.eq_iff_iff]
        simp [hg, Prod.ext_iff]
      simp [hg, h, e1, hr, hr, hg, hp2, hp4]
      rw [e2]
      (first | refine ifL_cases (fun h => ?_) (fun h => ?_) | refine gI_cases' (fun h => ?_) (fun h => ?_) | refine gI_cases (fun h => ?_) (fun h => ?_) | refine dI_cases' (fun h => ?_) (fun h => ?_) | refine dI_cases (fun h => ?_) (fun h => ?_)) <;> first | replace h := of_decide_eq_true h | replace h := of_decide_eq_false h | skip
      · simp [hg, h, hr]
      · simp [hg, h, hr, hp, g1, g2, g3, g4, g5, g6, c1, c2, c3, c4, c5, c6, hr, hg, hp2, hp4]
        have e9 : List.take (p + 1) (List.take p (List.take p l) ++ [(e.1, e.2)]) = List.take p l ++ [e] := by
          rw [List.take_take, Nat.min_self]
          exact List.take_of_length_le (by simp [hg, c1])
        rw [e9, List.append_assoc]
        rfl
    · have e1 : l[p]? = none := List.getElem?_eq_none (by omega)
      simp [hg, h, e1, hr, hp, g1, g2, g3, g4, g5, g6, c1, c2, c3, c4, c5, c6, hr, hg, hp2, hp4]
      have e9 : List.take (p + 1) (List.take p (List.take p l) ++ [(e.1, e.2)]) = List.take p l ++ [e] := by
        rw [List.take_take, Nat.min_self]
        exact List.take_of_length_le (by simp [hg, c1])
      rw [e9, List.append_assoc]
      rfl
  intro k i hi ih
  simp [hr, hg, hp2, hp4]
  repeat' ((first | refine ifL_cases (fun h => ?_) (fun h => ?_) | refine gI_cases' (fun h => ?_) (fun h => ?_) | refine gI_cases (fun h => ?_) (fun h => ?_) | refine dI_cases' (fun h => ?_) (fun h => ?_) | refine dI_cases (fun h => ?_) (fun h => ?_)) <;> first | replace h := of_decide_eq_true h | replace h := of_decide_eq_false h | skip
           all_goals try simp [p1, *])
  all_goals try simp (disch := omega) only [wrap_id']
  all_goals first | (refine (ih.out (i + 1) _ (by first | omega | grind) (by first | omega | (refine And.intro ?_ ?_; focus omega; (simp [*]; done)) | grind) (by first | (simp [*]; done) | (simp [*]; omega))).trans ?_; try simp [*]) | skip
  all_goals clear hp2 hp4
  all_goals clear ih p1
  all_goals grind [drop_at, drop_end, plE]
  ) Tryz.f83 Tryz.results83 gl83)
theorem putE_len (e : Ed) (l : List Ed) : (putE e l).length = l.length + 1 := by
  have := (plE_le e l 0).2
  simp [putE]
  omega
@[simp] theorem slT_put (o : Nat) (e : Ed) (l : List Ed) : slT o (putE e l) = .ref o 0 (l.length + 1) := by
  have h := putE_len e l
  generalize putE e l = m at *
  cases m with
  | nil => simp at h
  | cons a m => simp at h ⊢; exact h
@[simp] theorem slH_put (o t k : Nat) (f : Ed → List PV) (e : Ed) (l : List Ed) : slH o t k f (putE e l) = [(o, .row .own t k (rws f (putE e l)))] := by
  have h := putE_len e l
  generalize putE e l = m at *
  cases m with
  | nil => simp at h
  | cons a m => simp
end Go.Proofs.YtmfnklfoocebhaaGreatDoor
