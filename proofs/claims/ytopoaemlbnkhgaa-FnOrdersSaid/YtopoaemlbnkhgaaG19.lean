/- Is there a way, an edge being left aside? By the reference. -/
import Derived.Test.YtopoaemlbnkhgaaG18
namespace Go.Proofs.Ytopoaemlbnkhgaa
open Go Go.Pm Go.Proofs
set_option linter.unusedVariables false
set_option linter.unusedSimpArgs false
theorem gChk_of {n : Int} : ∀ {l : List Ed} {q : Option Ed}, (∀ e ∈ l, edIn n e = true) → l.Pairwise (fun a b => edLess a b = true) → (∀ p, q = some p → ∀ e ∈ l, edLess p e = true) → gChk n q l = true
  | [], q, _, _, _ => by cases q <;> rfl
  | e :: l, q, h1, h2, h3 => by
    have h4 := gChk_of (q := some e) (fun x hx => h1 x (List.mem_cons_of_mem _ hx)) (List.Pairwise.of_cons h2) (fun p hp x hx => by cases hp; exact (List.pairwise_cons.1 h2).1 x hx)
    have h5 := h1 e (List.mem_cons_self ..)
    cases q with
    | none => simp [gChk, h4, h5]
    | some p => simp [gChk, h4, h5, h3 p rfl e (List.mem_cons_self ..)]
@[simp] theorem nexts_nil (a : Int) : nexts a [] = [] := rfl
/-- All but one. -/
def exc (k : Int) : Nat → List Ed → List Ed
  | _, [] => []
  | i, e :: l => bif decide ((i : Int) = k) then exc k (i + 1) l else e :: exc k (i + 1) l
theorem exc_app (k : Int) : ∀ (l m : List Ed) (i : Nat), exc k i (l ++ m) = exc k i l ++ exc k (i + l.length) m
  | [], m, i => by simp [exc]
  | e :: l, m, i => by
    simp only [List.cons_append, exc, exc_app k l m, List.length_cons, show i + 1 + l.length = i + (l.length + 1) by omega]
    cases decide ((i : Int) = k) <;> rfl
theorem exc_take {k : Int} {l : List Ed} {i : Nat} (h : i < l.length) : exc k 0 (l.take (i + 1)) = exc k 0 (l.take i) ++ (bif decide ((i : Int) = k) then [] else [l[i]]) := by
  rw [take_at h, exc_app]
  simp only [List.length_take, show min i l.length = i by omega, Nat.zero_add, exc]
theorem exc_len (k : Int) : ∀ (l : List Ed) (i : Nat), (exc k i l).length ≤ l.length
  | [], _ => Nat.le_refl _
  | e :: l, i => by have := exc_len k l (i + 1); simp only [exc]; cases decide ((i : Int) = k) <;> simp <;> omega
theorem exc_no (k : Int) : ∀ (l : List Ed) (i : Nat), k < i → exc k i l = l
  | [], _, _ => rfl
  | e :: l, i, h => by
    have : ¬ ((i : Int) = k) := by omega
    simp [exc, this, exc_no k l (i + 1) (by omega)]
theorem exc_at : ∀ (l : List Ed) (i k : Nat), exc ((i + k : Nat) : Int) i l = l.eraseIdx k
  | [], _, _ => by simp [exc]
  | e :: l, i, 0 => by simp [exc, exc_no (i : Int) l (i + 1) (by omega)]
  | e :: l, i, k + 1 => by
    have h : ¬ ((i : Int) = ((i + (k + 1) : Nat) : Int)) := by omega
    have := exc_at l (i + 1) k
    rw [show i + 1 + k = i + (k + 1) by omega] at this
    simp only [exc, h, decide_false, cond_false, List.eraseIdx_cons_succ, this]
theorem exc_mem (k : Int) : ∀ (l : List Ed) (i : Nat), ∀ e ∈ exc k i l, e ∈ l
  | [], _, e, h => by cases h
  | x :: l, i, e, h => by
    simp only [exc] at h
    cases hc : decide ((i : Int) = k) <;> rw [hc] at h <;> simp at h
    · rcases h with rfl | h
      · simp
      · exact List.mem_cons_of_mem _ (exc_mem k l _ e h)
    · exact List.mem_cons_of_mem _ (exc_mem k l _ e h)
theorem exc_sub (k : Int) : ∀ (l : List Ed) (i : Nat), (exc k i l).Sublist l
  | [], _ => .slnil
  | e :: l, i => by
    simp only [exc]
    cases decide ((i : Int) = k)
    · exact .cons_cons e (exc_sub k l (i + 1))
    · exact .cons e (exc_sub k l (i + 1))
theorem exc_chk {n : Int} {l : List Ed} (k : Int) (h : gChk n none l = true) : gChk n none (exc k 0 l) = true :=
  gChk_of (fun e he => gChk_in h e (exc_mem k l 0 e he)) ((gChk_pair h).sublist (exc_sub k l 0)) (fun p hp => by cases hp)
theorem hasI_told (s : List Int) (v : Nat) : ∀ n, hasI (told s n) v = (decide (v < n) && hasI s v)
  | 0 => by simp [told, hasI]
  | n + 1 => by
    simp only [told, hasI_app, hasI_told s v n]
    by_cases h1 : v < n
    · have h2 : v < n + 1 := by omega
      have h3 : ¬ ((n : Int) = v) := by omega
      cases hn : hasI s (n : Int) <;> simp [hasI, h1, h2, h3]
    · by_cases h2 : v = n
      · subst h2
        cases hn : hasI s (v : Int) <;> simp [hasI]
      · have h3 : ¬ ((n : Int) = v) := by omega
        have h4 : ¬ v < n + 1 := by omega
        cases hn : hasI s (n : Int) <;> simp [hasI, h1, h4, h3]
set_option maxRecDepth 100000 in
set_option maxHeartbeats 4000000 in
theorem e70 (fn : Func) (hr : fn.results = #[.tmp 8]) (b : Bool) (n : Nat) (l : List Ed) (a c k : Int) (hn : n ≤ 20) (hl : l.length ≤ 400) (he : gChk n none l = true) (hc : 0 ≤ c ∧ c < n) : lim C0 70 fn [.c (code Try.f70)] ⟨number [grTV b n l, (.pv false (.sc (.int .i64 a))), (.pv false (.sc (.int .i64 c))), (.pv false (.sc (.int .i64 k)))] 0, []⟩ = some ((.pv false (.sc (.bool (hasI (rnds (exc k 0 l) n (marks (nexts a (exc k 0 l)) [])) c)))), []) := by
  have hp7 := plan70_7
  simp [opsOf, code, Try.f70] at hp7
  have p2 := fun b b' f h2 h3 => p69 b b' n (exc k 0 l) f hn (Nat.le_trans (exc_len k l 0) hl) (exc_chk k he) h2 h3
  have hel : (exc k 0 l).length ≤ l.length := exc_len k l 0
  have hin : ∀ e ∈ exc k 0 l, edIn n e = true := fun e h => gChk_in (exc_chk k he) e h
  simp only [grTV] at p2
  simp [code, Try.f70, hr, hp7]
  refine (loop_to (s0 := ?s1) (fun x => l.length - x.1) (fun x => [(10, slT 22 (nexts a x.2)), (11, (.pv false (.sc (.int .i64 ((x.1 : Nat))))))]) (fun x => [(16, .box [(.pv false (.sc (.int .i64 ((n : Nat))))), .pv b (.sl (eds l))]), (18, .box [(.pv false (.sc (.int .i64 ((n : Nat))))), slT 20 x.2])] ++ slH 20 42 2 edP x.2 ++ slH 22 3 1 (numP .i64) (nexts a x.2)) (fun x K => K [(10, slT 22 (nexts a (exc k 0 l))), (11, (.pv false (.sc (.int .i64 l.length))))] ([(16, .box [(.pv false (.sc (.int .i64 ((n : Nat))))), .pv b (.sl (eds l))]), (18, .box [(.pv false (.sc (.int .i64 ((n : Nat))))), slT 20 (exc k 0 l)])] ++ slH 20 42 2 edP (exc k 0 l) ++ slH 22 3 1 (numP .i64) (nexts a (exc k 0 l)))) (fun x => x.1 ≤ l.length ∧ Hid (x.2 = exc k 0 (l.take x.1))) ((0 : Nat), ([] : List Ed)) ?hc1 ?h01 ?hs1 ?step1).trans ?r1
  case hc1 => simp; rfl
  case h01 => first | (simp; done) | (simp [*]; done) | exact ⟨by simp, ⟨rfl⟩⟩ | grind | (simp; omega)
  case hs1 => first | (simp; done) | (simp [*]; done)
  case r1 =>
    have hnl := nexts_len a (exc k 0 l)
    have hq := fun b b' => p2 b b' (nexts a (exc k 0 l)) (by omega) (nexts_in a hin)
    have hto : hasI (told (rnds (exc k 0 l) n (marks (nexts a (exc k 0 l)) [])) n) c = hasI (rnds (exc k 0 l) n (marks (nexts a (exc k 0 l)) [])) c := by
      obtain ⟨v, rfl⟩ := Int.eq_ofNat_of_zero_le hc.1
      have hv : v < n := by omega
      rw [hasI_told]
      simp [hv]
    have hL := told_len (rnds (exc k 0 l) n (marks (nexts a (exc k 0 l)) [])) n
    rw [← hto]
    generalize told (rnds (exc k 0 l) n (marks (nexts a (exc k 0 l)) [])) n = L at *
    clear hto hin
    generalize nexts a (exc k 0 l) = N at *
    generalize exc k 0 l = R at *
    rcases R with _ | ⟨r0, R⟩
    · have hN : N = [] := List.eq_nil_of_length_eq_zero (by simpa using hnl)
      subst hN
      simp only [show nums .i64 [] = [] from rfl, show eds [] = [] from rfl] at hq
      simp [hq]
      refine (loop_to (s0 := ?s2) (fun i => L.length - i) (fun i => [(13, (.pv false (.sc (.int .i64 ((i : Nat))))))]) (fun i => [(16, .box [(.pv false (.sc (.int .i64 ((n : Nat))))), .pv b (.sl (eds l))]), (18, .box [(.pv false (.sc (.int .i64 ((n : Nat))))), .nl])]) (fun i K => bif hasI (L.drop i) c then some ((.pv false (.sc (.bool true))), []) else K [(13, (.pv false (.sc (.int .i64 L.length))))] ([(16, .box [(.pv false (.sc (.int .i64 ((n : Nat))))), .pv b (.sl (eds l))]), (18, .box [(.pv false (.sc (.int .i64 ((n : Nat))))), .nl])])) (fun i => i ≤ L.length) 0 ?hc2 ?h02 ?hs2 ?step2).trans ?r2
      case hc2 => simp; rfl
      case h02 => first | (simp; done) | (simp [*]; done) | exact ⟨by simp, ⟨rfl⟩⟩ | grind | (simp; omega)
      case hs2 => first | (simp; done) | (simp [*]; done)
      case r2 =>
        cases hk : hasI L c <;> simp [hr, hk]
      intro j i hi ih
      simp
      repeat' ((first | refine ifL_cases (fun h => ?_) (fun h => ?_) | refine gI_cases' (fun h => ?_) (fun h => ?_) | refine gI_cases (fun h => ?_) (fun h => ?_) | refine dI_cases' (fun h => ?_) (fun h => ?_) | refine dI_cases (fun h => ?_) (fun h => ?_)) <;> first | replace h := of_decide_eq_true h | replace h := of_decide_eq_false h | skip
               all_goals try simp [*])
      all_goals try simp (disch := omega) only [wrap_id']
      all_goals first | (refine (ih.out (i + 1) _ (by first | omega | grind) (by first | omega | (refine And.intro ?_ ?_; focus omega; (simp [*]; done)) | grind) (by first | (simp [*]; done) | (simp [*]; omega))).trans ?_; try simp [*]) | skip
      all_goals clear ih hq
      all_goals grind [drop_at, drop_end, hasI]
    · rcases N with _ | ⟨y0, N⟩
      · simp only [show nums .i64 [] = [] from rfl] at hq
        simp [hq]
        refine (loop_to (s0 := ?s3) (fun i => L.length - i) (fun i => [(13, (.pv false (.sc (.int .i64 ((i : Nat))))))]) (fun i => [(16, .box [(.pv false (.sc (.int .i64 ((n : Nat))))), .pv b (.sl (eds l))]), (18, .box [(.pv false (.sc (.int .i64 ((n : Nat))))), .ref 20 0 (R.length + 1)]), (20, .row .own 42 2 (rws edP (r0 :: R)))]) (fun i K => bif hasI (L.drop i) c then some ((.pv false (.sc (.bool true))), []) else K [(13, (.pv false (.sc (.int .i64 L.length))))] ([(16, .box [(.pv false (.sc (.int .i64 ((n : Nat))))), .pv b (.sl (eds l))]), (18, .box [(.pv false (.sc (.int .i64 ((n : Nat))))), .ref 20 0 (R.length + 1)]), (20, .row .own 42 2 (rws edP (r0 :: R)))])) (fun i => i ≤ L.length) 0 ?hc3 ?h03 ?hs3 ?step3).trans ?r3
        case hc3 => simp; rfl
        case h03 => first | (simp; done) | (simp [*]; done) | exact ⟨by simp, ⟨rfl⟩⟩ | grind | (simp; omega)
        case hs3 => first | (simp; done) | (simp [*]; done)
        case r3 =>
          cases hk : hasI L c <;> simp [hr, hk]
        intro j i hi ih
        simp
        repeat' ((first | refine ifL_cases (fun h => ?_) (fun h => ?_) | refine gI_cases' (fun h => ?_) (fun h => ?_) | refine gI_cases (fun h => ?_) (fun h => ?_) | refine dI_cases' (fun h => ?_) (fun h => ?_) | refine dI_cases (fun h => ?_) (fun h => ?_)) <;> first | replace h := of_decide_eq_true h | replace h := of_decide_eq_false h | skip
                 all_goals try simp [*])
        all_goals try simp (disch := omega) only [wrap_id']
        all_goals first | (refine (ih.out (i + 1) _ (by first | omega | grind) (by first | omega | (refine And.intro ?_ ?_; focus omega; (simp [*]; done)) | grind) (by first | (simp [*]; done) | (simp [*]; omega))).trans ?_; try simp [*]) | skip
        all_goals clear ih hq
        all_goals grind [drop_at, drop_end, hasI]
      · simp [hq]
        refine (loop_to (s0 := ?s4) (fun i => L.length - i) (fun i => [(13, (.pv false (.sc (.int .i64 ((i : Nat))))))]) (fun i => [(16, .box [(.pv false (.sc (.int .i64 ((n : Nat))))), .pv b (.sl (eds l))]), (18, .box [(.pv false (.sc (.int .i64 ((n : Nat))))), .ref 20 0 (R.length + 1)]), (20, .row .own 42 2 (rws edP (r0 :: R))), (22, .row .own 3 1 (rws (numP .i64) (y0 :: N)))]) (fun i K => bif hasI (L.drop i) c then some ((.pv false (.sc (.bool true))), []) else K [(13, (.pv false (.sc (.int .i64 L.length))))] ([(16, .box [(.pv false (.sc (.int .i64 ((n : Nat))))), .pv b (.sl (eds l))]), (18, .box [(.pv false (.sc (.int .i64 ((n : Nat))))), .ref 20 0 (R.length + 1)]), (20, .row .own 42 2 (rws edP (r0 :: R))), (22, .row .own 3 1 (rws (numP .i64) (y0 :: N)))])) (fun i => i ≤ L.length) 0 ?hc4 ?h04 ?hs4 ?step4).trans ?r4
        case hc4 => simp; rfl
        case h04 => first | (simp; done) | (simp [*]; done) | exact ⟨by simp, ⟨rfl⟩⟩ | grind | (simp; omega)
        case hs4 => first | (simp; done) | (simp [*]; done)
        case r4 =>
          cases hk : hasI L c <;> simp [hr, hk]
        intro j i hi ih
        simp
        repeat' ((first | refine ifL_cases (fun h => ?_) (fun h => ?_) | refine gI_cases' (fun h => ?_) (fun h => ?_) | refine gI_cases (fun h => ?_) (fun h => ?_) | refine dI_cases' (fun h => ?_) (fun h => ?_) | refine dI_cases (fun h => ?_) (fun h => ?_)) <;> first | replace h := of_decide_eq_true h | replace h := of_decide_eq_false h | skip
                 all_goals try simp [*])
        all_goals try simp (disch := omega) only [wrap_id']
        all_goals first | (refine (ih.out (i + 1) _ (by first | omega | grind) (by first | omega | (refine And.intro ?_ ?_; focus omega; (simp [*]; done)) | grind) (by first | (simp [*]; done) | (simp [*]; omega))).trans ?_; try simp [*]) | skip
        all_goals clear ih hq
        all_goals grind [drop_at, drop_end, hasI]
  rintro j ⟨i, acc⟩ ⟨hi, ha⟩ ih
  have hlen : acc.length ≤ i := by
    have h' : acc = exc k 0 (l.take i) := ha.out
    have := exc_len k (l.take i) 0
    rw [h']
    simp at this
    omega
  have hnl := nexts_len a acc
  simp at hi
  have hts : ∀ h : i < l.length, Hid (exc k 0 (l.take (i + 1)) = acc ++ (bif decide ((i : Int) = k) then [] else [l[i]])) := fun h => ⟨by have h' : acc = exc k 0 (l.take i) := ha.out; rw [exc_take h, ← h']⟩
  have hnx : ∀ h : i < l.length, Hid (nexts a (acc ++ [l[i]]) = nexts a acc ++ (bif decide (l[i].1 = a) then [l[i].2] else [])) := fun h => ⟨by rw [nexts_app]; rfl⟩
  have g3 : (acc.length + 1) * 16 ≤ Pm.roomBytes := by unfold Pm.roomBytes; omega
  have g4 : acc.length + 1 ≤ 9223372036854775807 := by omega
  have g5 : ((nexts a acc).length + 1) * 8 ≤ Pm.roomBytes := by unfold Pm.roomBytes; omega
  have g6 : (nexts a acc).length + 1 ≤ 9223372036854775807 := by omega
  clear hlen hnl
  rcases acc with _ | ⟨a0, acc⟩
  · simp
    simp at g3 g4 g5 g6
    · (first | refine ifL_cases (fun h => ?_) (fun h => ?_) | refine gI_cases' (fun h => ?_) (fun h => ?_) | refine gI_cases (fun h => ?_) (fun h => ?_) | refine dI_cases' (fun h => ?_) (fun h => ?_) | refine dI_cases (fun h => ?_) (fun h => ?_)) <;> first | replace h := of_decide_eq_true h | replace h := of_decide_eq_false h | skip
      · have hx := hts h
        have hx2 := hnx h
        simp [*]
        (first | refine ifL_cases (fun h => ?_) (fun h => ?_) | refine gI_cases' (fun h => ?_) (fun h => ?_) | refine gI_cases (fun h => ?_) (fun h => ?_) | refine dI_cases' (fun h => ?_) (fun h => ?_) | refine dI_cases (fun h => ?_) (fun h => ?_)) <;> first | replace h := of_decide_eq_true h | replace h := of_decide_eq_false h | skip
        · have hx4 := hx.out
          simp [*] at hx4
          simp [*]
          refine (ih.out (i + 1, []) _ ?_ ?_ ?_).trans ?_
          · simp; omega
          · exact ⟨by simp; omega, ⟨hx4.symm⟩⟩
          · simp [*]
            try simp (disch := omega) only [wrap_id']
          · rfl
        · have hx4 := hx.out
          simp [*] at hx4
          simp [*]
          (first | refine ifL_cases (fun h => ?_) (fun h => ?_) | refine gI_cases' (fun h => ?_) (fun h => ?_) | refine gI_cases (fun h => ?_) (fun h => ?_) | refine dI_cases' (fun h => ?_) (fun h => ?_) | refine dI_cases (fun h => ?_) (fun h => ?_)) <;> first | replace h := of_decide_eq_true h | replace h := of_decide_eq_false h | skip
          · have hx3 := hx2.out
            have e5 : (l[i].1, l[i].2) = l[i] := rfl
            try rw [h] at e5
            simp [*] at hx3
            simp [*]
            refine (ih.out (i + 1, [l[i]]) _ ?_ ?_ ?_).trans ?_
            · simp; omega
            · exact ⟨by simp; omega, ⟨hx4.symm⟩⟩
            · simp [*]
              try simp (disch := omega) only [wrap_id']
            · rfl
          · have hx3 := hx2.out
            have e5 : (l[i].1, l[i].2) = l[i] := rfl
            try rw [h] at e5
            simp [*] at hx3
            simp [*]
            refine (ih.out (i + 1, [l[i]]) _ ?_ ?_ ?_).trans ?_
            · simp; omega
            · exact ⟨by simp; omega, ⟨hx4.symm⟩⟩
            · simp [*]
              try simp (disch := omega) only [wrap_id']
            · rfl
      · have e : i = l.length := by omega
        subst e
        have hx : exc k 0 l = [] := by simpa using ha.out.symm
        simp [hx, nexts_nil]
  · generalize hN : nexts a (a0 :: acc) = N at *
    rcases N with _ | ⟨n0, N⟩
    all_goals simp
    all_goals simp at g3 g4 g5 g6
    · (first | refine ifL_cases (fun h => ?_) (fun h => ?_) | refine gI_cases' (fun h => ?_) (fun h => ?_) | refine gI_cases (fun h => ?_) (fun h => ?_) | refine dI_cases' (fun h => ?_) (fun h => ?_) | refine dI_cases (fun h => ?_) (fun h => ?_)) <;> first | replace h := of_decide_eq_true h | replace h := of_decide_eq_false h | skip
      · have hx := hts h
        have hx2 := hnx h
        simp [*]
        (first | refine ifL_cases (fun h => ?_) (fun h => ?_) | refine gI_cases' (fun h => ?_) (fun h => ?_) | refine gI_cases (fun h => ?_) (fun h => ?_) | refine dI_cases' (fun h => ?_) (fun h => ?_) | refine dI_cases (fun h => ?_) (fun h => ?_)) <;> first | replace h := of_decide_eq_true h | replace h := of_decide_eq_false h | skip
        · have hx4 := hx.out
          simp [*] at hx4
          simp [*]
          refine (ih.out (i + 1, a0 :: acc) _ ?_ ?_ ?_).trans ?_
          · simp; omega
          · exact ⟨by simp; omega, ⟨hx4.symm⟩⟩
          · simp [*]
            try simp (disch := omega) only [wrap_id']
          · rfl
        · have hx4 := hx.out
          simp [*] at hx4
          simp [*]
          (first | refine ifL_cases (fun h => ?_) (fun h => ?_) | refine gI_cases' (fun h => ?_) (fun h => ?_) | refine gI_cases (fun h => ?_) (fun h => ?_) | refine dI_cases' (fun h => ?_) (fun h => ?_) | refine dI_cases (fun h => ?_) (fun h => ?_)) <;> first | replace h := of_decide_eq_true h | replace h := of_decide_eq_false h | skip
          · have hx3 := hx2.out
            have e5 : (l[i].1, l[i].2) = l[i] := rfl
            try rw [h] at e5
            simp [*] at hx3
            simp [*]
            refine (ih.out (i + 1, a0 :: (acc ++ [l[i]])) _ ?_ ?_ ?_).trans ?_
            · simp; omega
            · exact ⟨by simp; omega, ⟨hx4.symm⟩⟩
            · simp [*]
              try simp (disch := omega) only [wrap_id']
            · rfl
          · have hx3 := hx2.out
            have e5 : (l[i].1, l[i].2) = l[i] := rfl
            try rw [h] at e5
            simp [*] at hx3
            simp [*]
            refine (ih.out (i + 1, a0 :: (acc ++ [l[i]])) _ ?_ ?_ ?_).trans ?_
            · simp; omega
            · exact ⟨by simp; omega, ⟨hx4.symm⟩⟩
            · simp [*]
              try simp (disch := omega) only [wrap_id']
            · rfl
      · have e : i = l.length := by omega
        subst e
        have hx : exc k 0 l = a0 :: acc := by simpa using ha.out.symm
        simp [hx, hN]
    · (first | refine ifL_cases (fun h => ?_) (fun h => ?_) | refine gI_cases' (fun h => ?_) (fun h => ?_) | refine gI_cases (fun h => ?_) (fun h => ?_) | refine dI_cases' (fun h => ?_) (fun h => ?_) | refine dI_cases (fun h => ?_) (fun h => ?_)) <;> first | replace h := of_decide_eq_true h | replace h := of_decide_eq_false h | skip
      · have hx := hts h
        have hx2 := hnx h
        simp [*]
        (first | refine ifL_cases (fun h => ?_) (fun h => ?_) | refine gI_cases' (fun h => ?_) (fun h => ?_) | refine gI_cases (fun h => ?_) (fun h => ?_) | refine dI_cases' (fun h => ?_) (fun h => ?_) | refine dI_cases (fun h => ?_) (fun h => ?_)) <;> first | replace h := of_decide_eq_true h | replace h := of_decide_eq_false h | skip
        · have hx4 := hx.out
          simp [*] at hx4
          simp [*]
          refine (ih.out (i + 1, a0 :: acc) _ ?_ ?_ ?_).trans ?_
          · simp; omega
          · exact ⟨by simp; omega, ⟨hx4.symm⟩⟩
          · simp [*]
            try simp (disch := omega) only [wrap_id']
          · rfl
        · have hx4 := hx.out
          simp [*] at hx4
          simp [*]
          (first | refine ifL_cases (fun h => ?_) (fun h => ?_) | refine gI_cases' (fun h => ?_) (fun h => ?_) | refine gI_cases (fun h => ?_) (fun h => ?_) | refine dI_cases' (fun h => ?_) (fun h => ?_) | refine dI_cases (fun h => ?_) (fun h => ?_)) <;> first | replace h := of_decide_eq_true h | replace h := of_decide_eq_false h | skip
          · have hx3 := hx2.out
            have e5 : (l[i].1, l[i].2) = l[i] := rfl
            try rw [h] at e5
            simp [*] at hx3
            simp [*]
            refine (ih.out (i + 1, a0 :: (acc ++ [l[i]])) _ ?_ ?_ ?_).trans ?_
            · simp; omega
            · exact ⟨by simp; omega, ⟨hx4.symm⟩⟩
            · simp [*]
              try simp (disch := omega) only [wrap_id']
            · rfl
          · have hx3 := hx2.out
            have e5 : (l[i].1, l[i].2) = l[i] := rfl
            try rw [h] at e5
            simp [*] at hx3
            simp [*]
            refine (ih.out (i + 1, a0 :: (acc ++ [l[i]])) _ ?_ ?_ ?_).trans ?_
            · simp; omega
            · exact ⟨by simp; omega, ⟨hx4.symm⟩⟩
            · simp [*]
              try simp (disch := omega) only [wrap_id']
            · rfl
      · have e : i = l.length := by omega
        subst e
        have hx : exc k 0 l = a0 :: acc := by simpa using ha.out.symm
        simp [hx, hN]
theorem p70 (b : Bool) (n : Nat) (l : List Ed) (a c k : Int) (hn : n ≤ 20) (hl : l.length ≤ 400) (he : gChk n none l = true) (hc : 0 ≤ c ∧ c < n) : phi C0 (lim C0) 70 [grTV b n l, (.pv false (.sc (.int .i64 a))), (.pv false (.sc (.int .i64 c))), (.pv false (.sc (.int .i64 k)))] [] = some ((.pv false (.sc (.bool (hasI (rnds (exc k 0 l) n (marks (nexts a (exc k 0 l)) [])) c)))), []) := call0 Try.func70 (by kernel_rfl) (e70 Try.f70 Try.results70 b n l a c k hn hl he hc)
end Go.Proofs.Ytopoaemlbnkhgaa
