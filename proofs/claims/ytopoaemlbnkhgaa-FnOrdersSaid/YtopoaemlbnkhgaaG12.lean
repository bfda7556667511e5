/- What can be come to, by the reference. -/
import Derived.Test.YtopoaemlbnkhgaaG11
import Derived.Test.YtopoaemlbnkhgaaG7
namespace Go.Proofs.Ytopoaemlbnkhgaa
open Go Go.Pm Go.Proofs
set_option linter.unusedVariables false
set_option linter.unusedSimpArgs false
theorem told_len (s : List Int) : ∀ n, (told s n).length ≤ n
  | 0 => Nat.le_refl _
  | n + 1 => by have := told_len s n; simp only [told]; cases hasI s (n : Int) <;> simp <;> omega
@[simp] theorem told_zero (s : List Int) : told s 0 = [] := rfl
attribute [local simp] dones_nil
theorem marks_at {l : List Int} {i : Nat} {s : List Int} (h : i < l.length) : marks (l.drop i) s = marks (l.drop (i + 1)) (mark s l[i]) := by rw [drop_at h]; rfl
set_option maxRecDepth 100000 in
set_option maxHeartbeats 4000000 in
theorem e69 (fn : Func) (hr : fn.results = #[.tmp 4]) (b b' : Bool) (n : Nat) (l : List Ed) (from' : List Int) (hn : n ≤ 20) (hl : l.length ≤ 400) (he : gChk n none l = true) (hf : from'.length ≤ 1048576) (hin : ∀ x ∈ from', 0 ≤ x ∧ x < n) : lim C0 69 fn [.c (code Try.f69)] ⟨number [grTV b n l, .pv b' (.sl (nums .i64 from'))] 0, []⟩ = some (.pv false (.sl (nums .i64 (told (rnds l n (marks from' [])) n))), []) := by
  have g1 : n ≤ Pm.roomBytes := by unfold Pm.roomBytes; omega
  have g2 : (n : Int) ≤ 9223372036854775807 := by omega
  simp [code, Try.f69, hr, g1, g2, -List.reduceReplicate]
  refine (loop_to (s0 := ?s1) (fun x => from'.length - x.1) (fun x => [(6, (.pv false (.sc (.int .i64 ((x.1 : Nat))))))]) (fun x => [(16, .box [(.pv false (.sc (.int .i64 ((n : Nat))))), .pv b (.sl (eds l))]), (18, .row .own 4 1 (rws boP (dones n (x.2))))]) (fun x K => K [(6, (.pv false (.sc (.int .i64 from'.length))))] [(16, .box [(.pv false (.sc (.int .i64 ((n : Nat))))), .pv b (.sl (eds l))]), (18, .row .own 4 1 (rws boP (dones n (marks (from'.drop x.1) x.2))))]) (fun x => x.1 ≤ from'.length) (0, ([] : List Int)) ?hc1 ?h01 ?hs1 ?step1).trans ?r1
  case hc1 => simp; rfl
  case h01 => first | (simp; done) | (simp [*]; done) | exact ⟨by simp, ⟨rfl⟩⟩ | grind | (simp; omega)
  case hs1 => first | (simp; done) | (simp [*]; done)
  case r1 =>
    simp
    generalize marks from' [] = s0
    refine (loop_to (s0 := ?s2) (fun x => n - x.1) (fun x => [(7, (.pv false (.sc (.int .i64 ((x.1 : Nat))))))]) (fun x => [(16, .box [(.pv false (.sc (.int .i64 ((n : Nat))))), .pv b (.sl (eds l))]), (18, .row .own 4 1 (rws boP (dones n (x.2))))]) (fun x K => K [(7, (.pv false (.sc (.int .i64 ((n : Nat))))))] [(16, .box [(.pv false (.sc (.int .i64 ((n : Nat))))), .pv b (.sl (eds l))]), (18, .row .own 4 1 (rws boP (dones n (rnds l (n - x.1) x.2))))]) (fun x => x.1 ≤ n) (0, s0) ?hc2 ?h02 ?hs2 ?step2).trans ?r2
    case hc2 => simp; rfl
    case h02 => first | (simp; done) | (simp [*]; done) | exact ⟨by simp, ⟨rfl⟩⟩ | grind | (simp; omega)
    case hs2 => first | (simp; done) | (simp [*]; done)
    case r2 =>
      simp
      generalize rnds l n s0 = s1
      refine (loop_to (s0 := ?s3) (fun x => n - x.1) (fun x => [(9, slT 20 x.2), (10, (.pv false (.sc (.int .i64 ((x.1 : Nat))))))]) (fun x => [(16, .box [(.pv false (.sc (.int .i64 ((n : Nat))))), .pv b (.sl (eds l))]), (18, .row .own 4 1 (rws boP (dones n (s1))))] ++ slH 20 3 1 (numP .i64) x.2) (fun x K => K [(9, slT 20 (told s1 n)), (10, (.pv false (.sc (.int .i64 ((n : Nat))))))] ([(16, .box [(.pv false (.sc (.int .i64 ((n : Nat))))), .pv b (.sl (eds l))]), (18, .row .own 4 1 (rws boP (dones n (s1))))] ++ slH 20 3 1 (numP .i64) (told s1 n))) (fun x => x.1 ≤ n ∧ Hid (x.2 = told s1 x.1)) (0, []) ?hc3 ?h03 ?hs3 ?step3).trans ?r3
      case hc3 => simp; rfl
      case h03 => first | (simp; done) | (simp [*]; done) | exact ⟨by simp, ⟨rfl⟩⟩ | grind | (simp; omega)
      case hs3 => first | (simp; done) | (simp [*]; done)
      case r3 => cases hk : told s1 n <;> simp [hr, hk]
      rintro k ⟨v, acc⟩ ⟨hv, ha⟩ ih
      have hlen := told_len s1 v
      simp at hv
      rw [← ha.out] at hlen
      simp at hlen
      have g3 : (acc.length + 1) * 8 ≤ Pm.roomBytes := by unfold Pm.roomBytes; omega
      have g4 : acc.length + 1 ≤ 9223372036854775807 := by omega
      have hts : Hid (told s1 (v + 1) = acc ++ (bif hasI s1 (v : Int) then [(v : Int)] else [])) := ⟨by have h' : acc = told s1 v := ha.out; subst h'; rfl⟩
      rcases acc with _ | ⟨a0, acc⟩
      all_goals simp
      all_goals simp at g3 g4
      · (first | refine ifL_cases (fun h => ?_) (fun h => ?_) | refine gI_cases' (fun h => ?_) (fun h => ?_) | refine gI_cases (fun h => ?_) (fun h => ?_) | refine dI_cases' (fun h => ?_) (fun h => ?_) | refine dI_cases (fun h => ?_) (fun h => ?_)) <;> first | replace h := of_decide_eq_true h | replace h := of_decide_eq_false h | skip
        · simp [*]
          (first | refine ifL_cases (fun h => ?_) (fun h => ?_) | refine gI_cases' (fun h => ?_) (fun h => ?_) | refine gI_cases (fun h => ?_) (fun h => ?_) | refine dI_cases' (fun h => ?_) (fun h => ?_) | refine dI_cases (fun h => ?_) (fun h => ?_)) <;> first | replace h := of_decide_eq_true h | replace h := of_decide_eq_false h | skip
          · simp [*]
            refine (ih.out (v + 1, [(v : Int)]) _ ?_ ?_ ?_).trans ?_
            · simp; omega
            · exact ⟨by simp; omega, ⟨by rw [hts.out]; simp [h]⟩⟩
            · simp
              try simp (disch := omega) only [wrap_id']
            · rfl
          · simp [*]
            refine (ih.out (v + 1, []) _ ?_ ?_ ?_).trans ?_
            · simp; omega
            · exact ⟨by simp; omega, ⟨by rw [hts.out]; simp [h]⟩⟩
            · simp
              try simp (disch := omega) only [wrap_id']
            · rfl
        · have e : v = n := by omega
          subst e
          simp [← ha.out]
      · (first | refine ifL_cases (fun h => ?_) (fun h => ?_) | refine gI_cases' (fun h => ?_) (fun h => ?_) | refine gI_cases (fun h => ?_) (fun h => ?_) | refine dI_cases' (fun h => ?_) (fun h => ?_) | refine dI_cases (fun h => ?_) (fun h => ?_)) <;> first | replace h := of_decide_eq_true h | replace h := of_decide_eq_false h | skip
        · simp [*]
          (first | refine ifL_cases (fun h => ?_) (fun h => ?_) | refine gI_cases' (fun h => ?_) (fun h => ?_) | refine gI_cases (fun h => ?_) (fun h => ?_) | refine dI_cases' (fun h => ?_) (fun h => ?_) | refine dI_cases (fun h => ?_) (fun h => ?_)) <;> first | replace h := of_decide_eq_true h | replace h := of_decide_eq_false h | skip
          · simp [*]
            refine (ih.out (v + 1, a0 :: (acc ++ [(v : Int)])) _ ?_ ?_ ?_).trans ?_
            · simp; omega
            · exact ⟨by simp; omega, ⟨by rw [hts.out]; simp [h]⟩⟩
            · simp
              try simp (disch := omega) only [wrap_id']
            · rfl
          · simp [*]
            refine (ih.out (v + 1, a0 :: acc) _ ?_ ?_ ?_).trans ?_
            · simp; omega
            · exact ⟨by simp; omega, ⟨by rw [hts.out]; simp [h]⟩⟩
            · simp
              try simp (disch := omega) only [wrap_id']
            · rfl
        · have e : v = n := by omega
          subst e
          simp [← ha.out]
    rintro k ⟨j, s⟩ hj ih
    simp at hj
    simp
    (first | refine ifL_cases (fun h => ?_) (fun h => ?_) | refine gI_cases' (fun h => ?_) (fun h => ?_) | refine gI_cases (fun h => ?_) (fun h => ?_) | refine dI_cases' (fun h => ?_) (fun h => ?_) | refine dI_cases (fun h => ?_) (fun h => ?_)) <;> first | replace h := of_decide_eq_true h | replace h := of_decide_eq_false h | skip
    · have hrs : rnds l (n - j) s = rnds l (n - (j + 1)) (rndE l s) := by rw [show n - j = (n - (j + 1)) + 1 by omega]; rfl
      simp [h]
      refine (loop_to (s0 := ?s4) (fun x => l.length - x.1) (fun x => [(8, (.pv false (.sc (.int .i64 ((x.1 : Nat))))))]) (fun x => [(16, .box [(.pv false (.sc (.int .i64 ((n : Nat))))), .pv b (.sl (eds l))]), (18, .row .own 4 1 (rws boP (dones n (x.2))))]) (fun x K => K [(8, (.pv false (.sc (.int .i64 l.length))))] [(16, .box [(.pv false (.sc (.int .i64 ((n : Nat))))), .pv b (.sl (eds l))]), (18, .row .own 4 1 (rws boP (dones n (rndE (l.drop x.1) x.2))))]) (fun x => x.1 ≤ l.length) (0, s) ?hc4 ?h04 ?hs4 ?step4).trans ?r4
      case hc4 => simp; rfl
      case h04 => first | (simp; done) | (simp [*]; done) | exact ⟨by simp, ⟨rfl⟩⟩ | grind | (simp; omega)
      case hs4 => first | (simp; done) | (simp [*]; done)
      case r4 =>
        simp
        try simp (disch := omega) only [wrap_id']
        refine (ih.out (j + 1, rndE l s) _ ?_ ?_ ?_).trans ?_
        · simp; omega
        · simp; omega
        · simp [*]
        · simp [*]
      clear ih
      rintro k ⟨i, s⟩ hi ih
      simp at hi
      simp
      (first | refine ifL_cases (fun h => ?_) (fun h => ?_) | refine gI_cases' (fun h => ?_) (fun h => ?_) | refine gI_cases (fun h => ?_) (fun h => ?_) | refine dI_cases' (fun h => ?_) (fun h => ?_) | refine dI_cases (fun h => ?_) (fun h => ?_)) <;> first | replace h := of_decide_eq_true h | replace h := of_decide_eq_false h | skip
      · have hb : edIn n l[i] = true := gChk_in he _ (List.getElem_mem h)
        have hb1 : 0 ≤ l[i].1 ∧ l[i].1 < n ∧ 0 ≤ l[i].2 ∧ l[i].2 < n := by grind [edIn]
        have hb2 : max l[i].1 0 = l[i].1 ∧ max l[i].2 0 = l[i].2 := by omega
        have hb3 : l[i].1.toNat < n ∧ l[i].2.toNat < n := by omega
        have hd := dones_mark n s l[i].2.toNat
        have hm := rndE_at (s := s) h
        simp [hb2] at hd
        simp [*, boP_set]
        repeat' ((first | refine ifL_cases (fun h => ?_) (fun h => ?_) | refine gI_cases' (fun h => ?_) (fun h => ?_) | refine gI_cases (fun h => ?_) (fun h => ?_) | refine dI_cases' (fun h => ?_) (fun h => ?_) | refine dI_cases (fun h => ?_) (fun h => ?_)) <;> first | replace h := of_decide_eq_true h | replace h := of_decide_eq_false h | skip
                 all_goals try simp [boP_set, *])
        all_goals try simp (disch := omega) only [wrap_id']
        all_goals first | (refine (ih.out ((i + 1, mark s l[i].2)) _ (by first | omega | grind) (by first | omega | (refine And.intro ?_ ?_; focus omega; (simp [*]; done)) | grind) (by first | (simp [*]; done) | (simp [*]; omega))).trans ?_; try simp [*]) | skip
        all_goals first | (refine (ih.out ((i + 1, s)) _ (by first | omega | grind) (by first | omega | (refine And.intro ?_ ?_; focus omega; (simp [*]; done)) | grind) (by first | (simp [*]; done) | (simp [*]; omega))).trans ?_; try simp [*]) | skip
      · have e : i = l.length := by omega
        subst e
        simp [rndE]
    · have e : j = n := by omega
      subst e
      simp [rnds]
  rintro k ⟨i, s⟩ hi ih
  simp at hi
  simp
  (first | refine ifL_cases (fun h => ?_) (fun h => ?_) | refine gI_cases' (fun h => ?_) (fun h => ?_) | refine gI_cases (fun h => ?_) (fun h => ?_) | refine dI_cases' (fun h => ?_) (fun h => ?_) | refine dI_cases (fun h => ?_) (fun h => ?_)) <;> first | replace h := of_decide_eq_true h | replace h := of_decide_eq_false h | skip
  · have hb := hin from'[i] (List.getElem_mem h)
    have hb2 : max from'[i] 0 = from'[i] := by omega
    have hb3 : from'[i].toNat < n := by omega
    have hd := dones_mark n s from'[i].toNat
    have hm := marks_at (s := s) h
    simp [hb2] at hd
    simp [*, boP_set]
    try simp (disch := omega) only [wrap_id']
    first | (refine (ih.out ((i + 1, mark s from'[i])) _ (by first | omega | grind) (by first | omega | (refine And.intro ?_ ?_; focus omega; (simp [*]; done)) | grind) (by first | (simp [*]; done) | (simp [*]; omega))).trans ?_; try simp [*]) | skip
  · have e : i = from'.length := by omega
    subst e
    simp [marks]
theorem p69 (b b' : Bool) (n : Nat) (l : List Ed) (from' : List Int) (hn : n ≤ 20) (hl : l.length ≤ 400) (he : gChk n none l = true) (hf : from'.length ≤ 1048576) (hin : ∀ x ∈ from', 0 ≤ x ∧ x < n) : phi C0 (lim C0) 69 [grTV b n l, .pv b' (.sl (nums .i64 from'))] [] = some (.pv false (.sl (nums .i64 (told (rnds l n (marks from' [])) n))), []) := call0 Try.func69 (by kernel_rfl) (e69 Try.f69 Try.results69 b b' n l from' hn hl he hf hin)
end Go.Proofs.Ytopoaemlbnkhgaa
