/- The order of a graph, by the reference. -/
import Derived.Test.YtopoaemlbnkhgaaG5
namespace Go.Proofs.Ytopoaemlbnkhgaa
open Go Go.Pm Go.Proofs
set_option linter.unusedVariables false
set_option linter.unusedSimpArgs false
theorem ordL_step {n : Nat} {l : List Ed} {out : List Int} : ordL n l out = if nextU out l n n 0 < n then ordL n l (out ++ [(nextU out l n n 0 : Int)]) else out := by
  rw [ordL]; simp
set_option maxRecDepth 100000 in
set_option maxHeartbeats 4000000 in
theorem e62 (fn : Func) (hr : fn.results = #[.tmp 2]) (b : Bool) (n : Nat) (l : List Ed) (hn : n ≤ 20) (hl : l.length ≤ 400) (he : gChk n none l = true) : lim C0 62 fn [.c (code Try.f62)] ⟨number [grTV b n l] 0, []⟩ = some (.pv false (.sl (nums .i64 (ordL n l []))), []) := by
  have g1 : n ≤ Pm.roomBytes := by unfold Pm.roomBytes; omega
  have g2 : (n : Int) ≤ 9223372036854775807 := by omega
  simp [code, Try.f62, hr, g1, g2, -List.reduceReplicate]
  refine (loop_go (s0 := ?s0) (fun out => left out n) (fun out => [(4, slT 20 out)]) (fun out => [(16, .box [(.pv false (.sc (.int .i64 ((n : Nat))))), .pv b (.sl (eds l))]), (18, .row .own 4 1 (rws boP (dones n out)))] ++ slH 20 3 1 (numP .i64) out) (fun out => some (.pv false (.sl (nums .i64 (ordL n l out))), [])) (fun out => out.length + left out n = n) [] ?hc ?h0 ?hs ?step).trans ?r
  case hc => simp; rfl
  case h0 => simp [left_nil]
  case hs => simp [dones_nil]
  case r => simp
  intro out ho ih
  have hs : ordL n l out = if nextD out l n (-1) < 0 then out else ordL n l (out ++ [nextD out l n (-1)]) := by rw [ordL_step, next_same]; split <;> grind
  rw [hs]
  rcases out with _ | ⟨a, out⟩
  all_goals simp
  · have hw0 : IntKind.i64.wrap ((n : Int) - 1) = n - 1 := wrap_id' (by omega)
    simp [hw0]
    refine (loop_to (s0 := ?s1) (fun x => x.1) (fun x => [(5, (.pv false (.sc (.int .i64 x.2)))), (6, (.pv false (.sc (.int .i64 ((x.1 : Nat) - 1)))))]) (fun x => [(16, .box [(.pv false (.sc (.int .i64 ((n : Nat))))), .pv b (.sl (eds l))]), (18, .row .own 4 1 (rws boP (dones n [])))]) (fun x K => K [(5, (.pv false (.sc (.int .i64 (nextD [] l x.1 x.2))))), (6, (.pv false (.sc (.int .i64 (-1)))))] ([(16, .box [(.pv false (.sc (.int .i64 ((n : Nat))))), .pv b (.sl (eds l))]), (18, .row .own 4 1 (rws boP (dones n [])))])) (fun x => x.1 ≤ n) (n, -1) ?hc1 ?h01 ?hs1 ?step1).trans ?r1
    case hc1 => simp; rfl
    case h01 => first | (simp; done) | (simp [*]; done) | exact ⟨by simp, ⟨rfl⟩⟩ | grind | (simp; omega)
    case hs1 => first | (simp; done) | (simp [*]; done)
    case r1 =>
      simp
      rcases nextD_lt (out := []) (l := l) n (-1) with ⟨h1, _⟩ | ⟨k, h1, h2, h3, _⟩
      · simp [h1, hr]
      · have hd := dones_set n [] k
        have hlt := left_lt (free_not h3) n h1
        simp at hd ho hlt
        have c1 : ¬ ((k : Int) < 0) := by omega
        have c2 : 1 * 8 ≤ Pm.roomBytes := by unfold Pm.roomBytes; omega
        have c3 : 1 ≤ 9223372036854775807 := by omega
        simp at c2 c3
        simp [h1, h2, hd, c1, c2, c3, boP_set]
        refine (ih.out ([(k : Int)]) _ ?_ ?_ ?_).trans ?_
        · first | omega | (simp; omega)
        · first | omega | (simp; omega)
        · simp
        · first | rfl | simp
    clear ih hs
    rintro k ⟨m, nx⟩ hm ih
    rcases m with _ | m
    · simp [nextD]
    · have hm' : m < n := by simp at hm; omega
      simp [hm']
      refine (loop_to (s0 := ?s2) (fun x => l.length - x.1) (fun x => [(7, (.pv false (.sc (.bool x.2)))), (8, (.pv false (.sc (.int .i64 ((x.1 : Nat))))))]) (fun x => [(16, .box [(.pv false (.sc (.int .i64 ((n : Nat))))), .pv b (.sl (eds l))]), (18, .row .own 4 1 (rws boP (dones n [])))]) (fun x K => K [(7, (.pv false (.sc (.bool (x.2 && !blocked [] (m : Int) (l.drop x.1)))))), (8, (.pv false (.sc (.int .i64 l.length))))] ([(16, .box [(.pv false (.sc (.int .i64 ((n : Nat))))), .pv b (.sl (eds l))]), (18, .row .own 4 1 (rws boP (dones n [])))])) (fun x => x.1 ≤ l.length) (0, !hasI [] (m : Int)) ?hc2 ?h02 ?hs2 ?step2).trans ?r2
      case hc2 => simp; rfl
      case h02 => first | (simp; done) | (simp [*]; done) | exact ⟨by simp, ⟨rfl⟩⟩ | grind | (simp; omega)
      case hs2 => first | (simp; done) | (simp [*]; done)
      case r2 =>
        have hw1 : IntKind.i64.wrap ((m : Int) - 1) = m - 1 := wrap_id' (by omega)
        cases hf : freeV [] l (m : Int)
        · have hf' := hf
          unfold freeV at hf'
          simp [hf', hw1, nextD, hf, -Bool.and_eq_false_imp]
          refine (ih.out (m, nx) _ ?_ ?_ ?_).trans ?_
          · simp
          · first | omega | (simp; omega)
          · simp
          · simp
        · have hf' := hf
          unfold freeV at hf'
          simp [hf', hw1, nextD, hf, -Bool.and_eq_true]
          refine (ih.out (m, (m : Int)) _ ?_ ?_ ?_).trans ?_
          · simp
          · first | omega | (simp; omega)
          · simp
          · simp
      clear ih
      rintro k ⟨i, fr⟩ hi ih
      simp at hi
      simp
      (first | refine ifL_cases (fun h => ?_) (fun h => ?_) | refine gI_cases' (fun h => ?_) (fun h => ?_) | refine gI_cases (fun h => ?_) (fun h => ?_) | refine dI_cases' (fun h => ?_) (fun h => ?_) | refine dI_cases (fun h => ?_) (fun h => ?_)) <;> first | replace h := of_decide_eq_true h | replace h := of_decide_eq_false h | skip
      · have hb : edIn n l[i] = true := gChk_in he _ (List.getElem_mem h)
        have hb1 : 0 ≤ l[i].1 ∧ l[i].1 < n := by grind [edIn]
        have hb2 : max l[i].1 0 = l[i].1 := by omega
        have hb3 : l[i].1.toNat < n := by omega
        have ba := blocked_at (out := []) (v := (m : Int)) h
        simp [h]
        repeat' ((first | refine ifL_cases (fun h => ?_) (fun h => ?_) | refine gI_cases' (fun h => ?_) (fun h => ?_) | refine gI_cases (fun h => ?_) (fun h => ?_) | refine dI_cases' (fun h => ?_) (fun h => ?_) | refine dI_cases (fun h => ?_) (fun h => ?_)) <;> first | replace h := of_decide_eq_true h | replace h := of_decide_eq_false h | skip
                 all_goals try simp [*])
        all_goals try simp (disch := omega) only [wrap_id']
        all_goals first | (refine (ih.out ((i + 1, fr)) _ (by first | omega | grind) (by first | omega | (refine And.intro ?_ ?_; focus omega; (simp [*]; done)) | grind) (by first | (simp [*]; done) | (simp [*]; omega))).trans ?_; try simp [*]) | skip
        all_goals first | (refine (ih.out ((i + 1, false)) _ (by first | omega | grind) (by first | omega | (refine And.intro ?_ ?_; focus omega; (simp [*]; done)) | grind) (by first | (simp [*]; done) | (simp [*]; omega))).trans ?_; try simp [*]) | skip
        all_goals clear ih
        all_goals grind
      · have e : i = l.length := by omega
        subst e
        simp [blocked]
  · have hw0 : IntKind.i64.wrap ((n : Int) - 1) = n - 1 := wrap_id' (by omega)
    simp [hw0]
    refine (loop_to (s0 := ?s3) (fun x => x.1) (fun x => [(5, (.pv false (.sc (.int .i64 x.2)))), (6, (.pv false (.sc (.int .i64 ((x.1 : Nat) - 1)))))]) (fun x => [(16, .box [(.pv false (.sc (.int .i64 ((n : Nat))))), .pv b (.sl (eds l))]), (18, .row .own 4 1 (rws boP (dones n (a :: out)))), (20, .row .own 3 1 (rws (numP .i64) (a :: out)))]) (fun x K => K [(5, (.pv false (.sc (.int .i64 (nextD (a :: out) l x.1 x.2))))), (6, (.pv false (.sc (.int .i64 (-1)))))] ([(16, .box [(.pv false (.sc (.int .i64 ((n : Nat))))), .pv b (.sl (eds l))]), (18, .row .own 4 1 (rws boP (dones n (a :: out)))), (20, .row .own 3 1 (rws (numP .i64) (a :: out)))])) (fun x => x.1 ≤ n) (n, -1) ?hc3 ?h03 ?hs3 ?step3).trans ?r3
    case hc3 => simp; rfl
    case h03 => first | (simp; done) | (simp [*]; done) | exact ⟨by simp, ⟨rfl⟩⟩ | grind | (simp; omega)
    case hs3 => first | (simp; done) | (simp [*]; done)
    case r3 =>
      simp
      rcases nextD_lt (out := (a :: out)) (l := l) n (-1) with ⟨h1, _⟩ | ⟨k, h1, h2, h3, _⟩
      · simp [h1, hr]
      · have hd := dones_set n (a :: out) k
        have hlt := left_lt (free_not h3) n h1
        simp at hd ho hlt
        have c1 : ¬ ((k : Int) < 0) := by omega
        have c2 : (out.length + 1 + 1) * 8 ≤ Pm.roomBytes := by unfold Pm.roomBytes; omega
        have c3 : (out.length + 1 + 1) ≤ 9223372036854775807 := by omega
        simp at c2 c3
        simp [h1, h2, hd, c1, c2, c3, boP_set]
        refine (ih.out (a :: (out ++ [(k : Int)])) _ ?_ ?_ ?_).trans ?_
        · first | omega | (simp; omega)
        · first | omega | (simp; omega)
        · simp
        · first | rfl | simp
    clear ih hs
    rintro k ⟨m, nx⟩ hm ih
    rcases m with _ | m
    · simp [nextD]
    · have hm' : m < n := by simp at hm; omega
      simp [hm']
      refine (loop_to (s0 := ?s4) (fun x => l.length - x.1) (fun x => [(7, (.pv false (.sc (.bool x.2)))), (8, (.pv false (.sc (.int .i64 ((x.1 : Nat))))))]) (fun x => [(16, .box [(.pv false (.sc (.int .i64 ((n : Nat))))), .pv b (.sl (eds l))]), (18, .row .own 4 1 (rws boP (dones n (a :: out)))), (20, .row .own 3 1 (rws (numP .i64) (a :: out)))]) (fun x K => K [(7, (.pv false (.sc (.bool (x.2 && !blocked (a :: out) (m : Int) (l.drop x.1)))))), (8, (.pv false (.sc (.int .i64 l.length))))] ([(16, .box [(.pv false (.sc (.int .i64 ((n : Nat))))), .pv b (.sl (eds l))]), (18, .row .own 4 1 (rws boP (dones n (a :: out)))), (20, .row .own 3 1 (rws (numP .i64) (a :: out)))])) (fun x => x.1 ≤ l.length) (0, !hasI (a :: out) (m : Int)) ?hc4 ?h04 ?hs4 ?step4).trans ?r4
      case hc4 => simp; rfl
      case h04 => first | (simp; done) | (simp [*]; done) | exact ⟨by simp, ⟨rfl⟩⟩ | grind | (simp; omega)
      case hs4 => first | (simp; done) | (simp [*]; done)
      case r4 =>
        have hw1 : IntKind.i64.wrap ((m : Int) - 1) = m - 1 := wrap_id' (by omega)
        cases hf : freeV (a :: out) l (m : Int)
        · have hf' := hf
          unfold freeV at hf'
          simp [hf', hw1, nextD, hf, -Bool.and_eq_false_imp]
          refine (ih.out (m, nx) _ ?_ ?_ ?_).trans ?_
          · simp
          · first | omega | (simp; omega)
          · simp
          · simp
        · have hf' := hf
          unfold freeV at hf'
          simp [hf', hw1, nextD, hf, -Bool.and_eq_true]
          refine (ih.out (m, (m : Int)) _ ?_ ?_ ?_).trans ?_
          · simp
          · first | omega | (simp; omega)
          · simp
          · simp
      clear ih
      rintro k ⟨i, fr⟩ hi ih
      simp at hi
      simp
      (first | refine ifL_cases (fun h => ?_) (fun h => ?_) | refine gI_cases' (fun h => ?_) (fun h => ?_) | refine gI_cases (fun h => ?_) (fun h => ?_) | refine dI_cases' (fun h => ?_) (fun h => ?_) | refine dI_cases (fun h => ?_) (fun h => ?_)) <;> first | replace h := of_decide_eq_true h | replace h := of_decide_eq_false h | skip
      · have hb : edIn n l[i] = true := gChk_in he _ (List.getElem_mem h)
        have hb1 : 0 ≤ l[i].1 ∧ l[i].1 < n := by grind [edIn]
        have hb2 : max l[i].1 0 = l[i].1 := by omega
        have hb3 : l[i].1.toNat < n := by omega
        have ba := blocked_at (out := (a :: out)) (v := (m : Int)) h
        simp [h]
        repeat' ((first | refine ifL_cases (fun h => ?_) (fun h => ?_) | refine gI_cases' (fun h => ?_) (fun h => ?_) | refine gI_cases (fun h => ?_) (fun h => ?_) | refine dI_cases' (fun h => ?_) (fun h => ?_) | refine dI_cases (fun h => ?_) (fun h => ?_)) <;> first | replace h := of_decide_eq_true h | replace h := of_decide_eq_false h | skip
                 all_goals try simp [*])
        all_goals try simp (disch := omega) only [wrap_id']
        all_goals first | (refine (ih.out ((i + 1, fr)) _ (by first | omega | grind) (by first | omega | (refine And.intro ?_ ?_; focus omega; (simp [*]; done)) | grind) (by first | (simp [*]; done) | (simp [*]; omega))).trans ?_; try simp [*]) | skip
        all_goals first | (refine (ih.out ((i + 1, false)) _ (by first | omega | grind) (by first | omega | (refine And.intro ?_ ?_; focus omega; (simp [*]; done)) | grind) (by first | (simp [*]; done) | (simp [*]; omega))).trans ?_; try simp [*]) | skip
        all_goals clear ih
        all_goals grind
      · have e : i = l.length := by omega
        subst e
        simp [blocked]
theorem p62 (b : Bool) (n : Nat) (l : List Ed) (hn : n ≤ 20) (hl : l.length ≤ 400) (he : gChk n none l = true) : phi C0 (lim C0) 62 [grTV b n l] [] = some (.pv false (.sl (nums .i64 (ordL n l []))), []) := call0 Try.func62 (by kernel_rfl) (e62 Try.f62 Try.results62 b n l hn hl he)
end Go.Proofs.Ytopoaemlbnkhgaa
