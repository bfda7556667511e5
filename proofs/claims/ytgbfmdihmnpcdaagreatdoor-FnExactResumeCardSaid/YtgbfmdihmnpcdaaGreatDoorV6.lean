/- Names, texts, addresses, by the reference. -/
import Derived.Test.YtgbfmdihmnpcdaaGreatDoorV10
namespace Go.Proofs.YtgbfmdihmnpcdaaGreatDoor
open Go Go.Pm Go.Proofs
set_option linter.unusedVariables false
set_option linter.unusedSimpArgs false
set_option maxRecDepth 100000
set_option maxHeartbeats 4000000
theorem p134 (b : Bool) (l : List Int) (hl : l.length ≤ 1048576) : phi C0 (lim C0) 134 [.pv b (.sl (nums .u8 l))] [] = some ((bv (nameB l)), []) := call0 Tryz.func134 (by kernel_rfl) ((show ∀ fn : Func, fn.results = #[.tmp 2] → globs fn = [0, 11, 3, 15, 29, 2] → lim C0 134 fn [.c (code Tryz.f134)] ⟨_, _⟩ = _ from fun fn hr hg => by
 simp [code, Tryz.f134, hr, hg]
 repeat' ((first | refine ifL_cases (fun h => ?_) (fun h => ?_) | refine gI_cases' (fun h => ?_) (fun h => ?_) | refine gI_cases (fun h => ?_) (fun h => ?_) | refine dI_cases' (fun h => ?_) (fun h => ?_) | refine dI_cases (fun h => ?_) (fun h => ?_)) <;> first | replace h := of_decide_eq_true h | replace h := of_decide_eq_false h | skip
          all_goals try simp [hr, hg, hr, *])
 all_goals first | (simp [hg, nameB]; omega) | skip
 refine (loop_to (s0 := ?s1) (fun i => l.length - i) (fun i => [(3, (iv ((i : Nat))))]) (fun i => []) (fun i K => (if lettersB (l.drop i) then K [(3, (iv l.length))] [] else some ((bv false), []))) (fun i => i ≤ l.length) 0 ?hc1 ?h01 ?hs1 ?step1).trans ?r1
 case hc1 => simp; rfl
 case h01 => first | (simp; done) | (simp [*]; done) | exact ⟨by simp, ⟨rfl⟩⟩ | grind | (simp; omega)
 case hs1 => first | (simp; done) | (simp [*]; done)
 case r1 =>
  cases hb : lettersB l <;> simp [hg, hr, nameB, hb] <;> omega
 intro k i hi ih
 simp [hg]
 (first | refine ifL_cases (fun h => ?_) (fun h => ?_) | refine gI_cases' (fun h => ?_) (fun h => ?_) | refine gI_cases (fun h => ?_) (fun h => ?_) | refine dI_cases' (fun h => ?_) (fun h => ?_) | refine dI_cases (fun h => ?_) (fun h => ?_)) <;> first | replace h := of_decide_eq_true h | replace h := of_decide_eq_false h | skip
 · have hlt := h
   rw [lettersB_at hlt]
   simp [hg, hlt, hr, hg]
   repeat' ((first | refine ifL_cases (fun h => ?_) (fun h => ?_) | refine gI_cases' (fun h => ?_) (fun h => ?_) | refine gI_cases (fun h => ?_) (fun h => ?_) | refine dI_cases' (fun h => ?_) (fun h => ?_) | refine dI_cases (fun h => ?_) (fun h => ?_)) <;> first | replace h := of_decide_eq_true h | replace h := of_decide_eq_false h | skip
            all_goals try simp [hr, hg, *])
   all_goals try simp (disch := omega) only [wrap_id']
   all_goals first | (refine (ih.out (i + 1) _ (by first | omega | grind) (by first | omega | (refine And.intro ?_ ?_; focus omega; (simp [*]; done)) | grind) (by first | (simp [*]; done) | (simp [*]; omega))).trans ?_; try simp [*]) | skip
   all_goals clear ih
   all_goals grind
 · have e : i = l.length := by omega
   subst e
   simp [hg, lettersB]
 ) Tryz.f134 Tryz.results134 gl134)
theorem p136 (b : Bool) (l : List Int) (hl : l.length ≤ 1048576) : phi C0 (lim C0) 136 [.pv b (.sl (nums .u8 l))] [] = some ((bv (textB l)), []) := call0 Tryz.func136 (by kernel_rfl) ((show ∀ fn : Func, fn.results = #[.tmp 2] → globs fn = [0, 6, 3, 10, 24, 2] → lim C0 136 fn [.c (code Tryz.f136)] ⟨_, _⟩ = _ from fun fn hr hg => by
 simp [code, Tryz.f136, hr, hg]
 repeat' ((first | refine ifL_cases (fun h => ?_) (fun h => ?_) | refine gI_cases' (fun h => ?_) (fun h => ?_) | refine gI_cases (fun h => ?_) (fun h => ?_) | refine dI_cases' (fun h => ?_) (fun h => ?_) | refine dI_cases (fun h => ?_) (fun h => ?_)) <;> first | replace h := of_decide_eq_true h | replace h := of_decide_eq_false h | skip
          all_goals try simp [hr, hg, hr, *])
 all_goals first | (simp [hg, textB]; omega) | skip
 refine (loop_to (s0 := ?s2) (fun i => l.length - i) (fun i => [(3, (iv ((i : Nat))))]) (fun i => []) (fun i K => (if printB (l.drop i) then K [(3, (iv l.length))] [] else some ((bv false), []))) (fun i => i ≤ l.length) 0 ?hc2 ?h02 ?hs2 ?step2).trans ?r2
 case hc2 => simp; rfl
 case h02 => first | (simp; done) | (simp [*]; done) | exact ⟨by simp, ⟨rfl⟩⟩ | grind | (simp; omega)
 case hs2 => first | (simp; done) | (simp [*]; done)
 case r2 =>
  cases hb : printB l <;> simp [hg, hr, textB, hb] <;> omega
 intro k i hi ih
 simp [hg]
 (first | refine ifL_cases (fun h => ?_) (fun h => ?_) | refine gI_cases' (fun h => ?_) (fun h => ?_) | refine gI_cases (fun h => ?_) (fun h => ?_) | refine dI_cases' (fun h => ?_) (fun h => ?_) | refine dI_cases (fun h => ?_) (fun h => ?_)) <;> first | replace h := of_decide_eq_true h | replace h := of_decide_eq_false h | skip
 · have hlt := h
   rw [printB_at hlt]
   simp [hg, hlt, hr, hg]
   repeat' ((first | refine ifL_cases (fun h => ?_) (fun h => ?_) | refine gI_cases' (fun h => ?_) (fun h => ?_) | refine gI_cases (fun h => ?_) (fun h => ?_) | refine dI_cases' (fun h => ?_) (fun h => ?_) | refine dI_cases (fun h => ?_) (fun h => ?_)) <;> first | replace h := of_decide_eq_true h | replace h := of_decide_eq_false h | skip
            all_goals try simp [hr, hg, *])
   all_goals try simp (disch := omega) only [wrap_id']
   all_goals first | (refine (ih.out (i + 1) _ (by first | omega | grind) (by first | omega | (refine And.intro ?_ ?_; focus omega; (simp [*]; done)) | grind) (by first | (simp [*]; done) | (simp [*]; omega))).trans ?_; try simp [*]) | skip
   all_goals clear ih
   all_goals grind
 · have e : i = l.length := by omega
   subst e
   simp [hg, printB]
 ) Tryz.f136 Tryz.results136 gl136)
theorem p135 (n : Int) : phi C0 (lim C0) 135 [(iv n)] [] = some ((bv (inI n (-1000000000000) 1000000000000)), []) := call0 Tryz.func135 (by kernel_rfl) ((show ∀ fn : Func, fn.results = #[.tmp 2] → lim C0 135 fn [.c (code Tryz.f135)] ⟨_, _⟩ = _ from fun fn hr => by
 simp [code, Tryz.f135, hr]
 repeat' ((first | refine ifL_cases (fun h => ?_) (fun h => ?_) | refine gI_cases' (fun h => ?_) (fun h => ?_) | refine gI_cases (fun h => ?_) (fun h => ?_) | refine dI_cases' (fun h => ?_) (fun h => ?_) | refine dI_cases (fun h => ?_) (fun h => ?_)) <;> first | replace h := of_decide_eq_true h | replace h := of_decide_eq_false h | skip
          all_goals try simp [hr, *])
 all_goals grind [inI]
 ) Tryz.f135 Tryz.results135)
def posB : List Int → Nat
 | [] => 0
 | c :: l => if c = 91 then 0 else 1 + posB l
def digB : List Int → Bool
 | [] => true
 | x :: l => decide (48 ≤ x) && decide (x ≤ 57) && digB l
def inQ (q : List Int) : Bool := bif decide (q.getD 0 0 = 34) then decide (3 ≤ q.length) && decide (q.getD (q.length - 1) 0 = 34) && nameB ((q.drop 1).take (q.length - 1 - 1)) else decide (q.length ≤ 2) && !(decide (q.length = 2) && decide (q.getD 0 0 = 48)) && digB q
def restB (r : List Int) : Bool := decide (r = []) || (decide (3 ≤ r.length) && decide (r.getD (r.length - 1) 0 = 93) && inQ ((r.drop 1).take (r.length - 1 - 1)))
def splitB (l : List Int) : Bool := nameB (l.take (posB l)) && restB (l.drop (posB l))
theorem posB_le : ∀ l : List Int, posB l ≤ l.length
 | [] => by simp [posB]
 | c :: l => by
  have := posB_le l
  simp only [posB, List.length_cons]
  split <;> omega
theorem posB_at {l : List Int} {i : Nat} (h : i < l.length) : posB (l.drop i) = if l[i] = 91 then 0 else 1 + posB (l.drop (i + 1)) := by rw [drop_at h]; rfl
theorem digB_at {l : List Int} {i : Nat} (h : i < l.length) : digB (l.drop i) = (decide (48 ≤ l[i]) && decide (l[i] ≤ 57) && digB (l.drop (i + 1))) := by rw [drop_at h]; rfl
theorem p101 (l : List Int) (hl : l.length ≤ 1048576) : phi C0 (lim C0) 101 [.pv false (.sl (nums .u8 l))] [] = some (if splitB l then .tu [.pv false (.sl (nums .u8 (l.take (posB l)))), .pv false (.sl (nums .u8 (l.drop (posB l)))), (bv true)] else .tu [.pv false (.sl []), .pv false (.sl []), (bv false)], []) := call0 Tryz.func101 (by kernel_rfl) ((show ∀ fn : Func, fn.results = #[.tmp 2, .tmp 3, .tmp 4] → globs fn = [5, 0, 20, 27, 6, 33, 7, 47, 8, 55, 76, 94, 9, 98, 112, 2, 3, 4] → lim C0 101 fn [.c (code Tryz.f101)] ⟨_, _⟩ = _ from fun fn hr hg => by
 have hp8 := plan101_8
 simp [opsOf, code, Tryz.f101] at hp8
 have hp16 := plan101_16
 simp [opsOf, code, Tryz.f101] at hp16
 have hp24 := plan101_24
 simp [opsOf, code, Tryz.f101] at hp24
 simp [code, Tryz.f101, hr, hg, hp8, hp16, hp24]
 refine (loop_to (s0 := ?s3) (fun i => l.length - i) (fun i => [(5, (iv ((i : Nat))))]) (fun i => []) (fun i K => K [(5, (iv ((i + posB (l.drop i) : Nat))))] []) (fun i => i ≤ l.length) 0 ?hc3 ?h03 ?hs3 ?step3).trans ?r3
 case hc3 => simp; rfl
 case h03 => first | (simp; done) | (simp [*]; done) | exact ⟨by simp, ⟨rfl⟩⟩ | grind | (simp; omega)
 case hs3 => first | (simp; done) | (simp [*]; done)
 case r3 =>
  have hp := posB_le l
  have q1 := fun b => p134 b (l.take (posB l)) (by simp [hg]; omega)
  simp [hr, hg, hp8, hp16, hp24, hp, q1]
  (first | refine ifL_cases (fun h => ?_) (fun h => ?_) | refine gI_cases' (fun h => ?_) (fun h => ?_) | refine gI_cases (fun h => ?_) (fun h => ?_) | refine dI_cases' (fun h => ?_) (fun h => ?_) | refine dI_cases (fun h => ?_) (fun h => ?_)) <;> first | replace h := of_decide_eq_true h | replace h := of_decide_eq_false h | skip
  · have hn := h
    have es : splitB l = restB (l.drop (posB l)) := by unfold splitB; rw [hn]; rfl
    rw [es]
    obtain ⟨r, hr0⟩ : ∃ r, l.drop (posB l) = r := ⟨_, rfl⟩
    have hrl : r.length = l.length - posB l := by rw [← hr0]; simp [hg]
    have hr2 : r.length ≤ 1048576 := by omega
    have et : r.take (l.length - posB l) = r := List.take_of_length_le (by omega)
    rw [hr0]
    have hcat : l.take (posB l) ++ r = l := by rw [← hr0]; exact List.take_append_drop ..
    generalize hnm : l.take (posB l) = nm at *
    simp [hr, hg, hp8, hp16, hp24, hp, hn, et, hr0, hnm]
    clear hr0 hrl et es q1 hn
    (first | refine ifL_cases (fun h => ?_) (fun h => ?_) | refine gI_cases' (fun h => ?_) (fun h => ?_) | refine gI_cases (fun h => ?_) (fun h => ?_) | refine dI_cases' (fun h => ?_) (fun h => ?_) | refine dI_cases (fun h => ?_) (fun h => ?_)) <;> first | replace h := of_decide_eq_true h | replace h := of_decide_eq_false h | skip
    · have e : restB r = true := by unfold restB; simp [hg, h]
      subst h
      simp at hcat
      subst hcat
      simp [hg, hr, e]
    have hne : r ≠ [] := h
    have hpos : 0 < r.length := List.length_pos_iff.2 hne
    have w1 : IntKind.i64.wrap ((r.length : Int) - 1) = ((r.length - 1 : Nat) : Int) := by rw [wrap_id' (by omega)]; omega
    simp [hg, hne, hr]
    by_cases h3 : r.length < 3
    · have e : restB r = false := by unfold restB; simp [hg, hne]; omega
      have h3' : (r.length : Int) < 3 := by omega
      simp [hg, h3', e, hr]
    have h3' : ¬ (r.length : Int) < 3 := by omega
    have hlt1 : r.length - 1 < r.length := by omega
    simp [hg, h3', w1, hlt1]
    by_cases h93 : r[r.length - 1] = 93
    · have h11 : (1 : Int) ≤ ((r.length - 1 : Nat) : Int) := by omega
      obtain ⟨q, hq0⟩ : ∃ q, (r.drop 1).take (r.length - 1 - 1) = q := ⟨_, rfl⟩
      have hq : List.take (r.length - 1 - 1) (rws (numP .u8) r).tail = rws (numP .u8) q := by rw [← hq0]; simp [hg, rws]
      have hql : q.length = r.length - 1 - 1 := by rw [← hq0]; simp [hg]
      have er : restB r = inQ q := by unfold restB; rw [hq0]; simp [hg, hne, hlt1, h93]; try omega
      have hq1 : 0 < q.length := by omega
      have hq2 : q.length ≤ 1048576 := by omega
      rw [er]
      simp [hg, h93, hr, w1, h11, hq, hq1]
      clear hq hql er h93 hq0
      have hg0 : q.getD 0 0 = q[0] := by simp [hg, List.getD, hq1]
      by_cases h34 : q[0] = 34
      · simp [hg, h34, hr]
        by_cases h3q : q.length < 3
        · have h3q' : (q.length : Int) < 3 := by omega
          have e : inQ q = false := by unfold inQ; rw [hg0, h34]; simp [hg]; omega
          simp [hg, h3q', e, hr]
        have h3q' : ¬ (q.length : Int) < 3 := by omega
        have hltq : q.length - 1 < q.length := by omega
        have wq : IntKind.i64.wrap ((q.length : Int) - 1) = ((q.length - 1 : Nat) : Int) := by rw [wrap_id' (by omega)]; omega
        simp [hg, h3q', wq, hltq]
        by_cases hl34 : q[q.length - 1] = 34
        · have h11q : (1 : Int) ≤ ((q.length - 1 : Nat) : Int) := by omega
          obtain ⟨k, hk0⟩ : ∃ k, (q.drop 1).take (q.length - 1 - 1) = k := ⟨_, rfl⟩
          have hk : List.take (q.length - 1 - 1) (rws (numP .u8) q).tail = rws (numP .u8) k := by rw [← hk0]; simp [hg, rws]
          have e : inQ q = nameB k := by unfold inQ; rw [hg0, h34, hk0]; simp [hg, hltq, hl34]; try omega
          have q2 := fun b => p134 b k (by rw [← hk0]; simp [hg]; omega)
          rw [e]
          simp [hg, hl34, hr, wq, h11q, hk, q2]
          cases nameB k <;> simp [hg, hr, hp, hnm]
        · have e : inQ q = false := by unfold inQ; rw [hg0, h34]; simp [hg, hltq, hl34]
          simp [hg, hl34, hr, e]
      · simp [hg, h34, hr]
        by_cases h2q : 2 < q.length
        · have h2q' : (2 : Int) < (q.length : Int) := by omega
          have e : inQ q = false := by unfold inQ; rw [hg0]; simp [hg, h34]; omega
          simp [hg, h2q', e, hr]
        have h2q' : ¬ (2 : Int) < (q.length : Int) := by omega
        simp [hg, h2q', hr]
        by_cases h20 : q.length = 2 ∧ q[0] = 48
        · have e : inQ q = false := by unfold inQ; rw [hg0]; simp [hg, h34, h20.1, h20.2]
          have h20' : (q.length : Int) = 2 := by omega
          simp [hg, h20.1, h20.2, e, hr, h20', hq1]
        have ed : inQ q = digB q := by
         unfold inQ; rw [hg0]; simp [hg, h34]
         have : (decide (q.length = 2) && decide (q[0] = 48)) = false := by simpa using h20
         simp at this
         intro hd
         exact ⟨by omega, (Decidable.em (q.length = 2)).elim (fun h => .inr (this h)) .inl⟩
        rw [ed]
        have h48 : (q.length : Int) = 2 → q[0] ≠ 48 := fun h1 h => h20 ⟨by omega, h⟩
        by_cases hq22 : (q.length : Int) = 2
        all_goals (try have h48 := h48 hq22)
        all_goals simp [hg, hq22, h48, hr, hq1]
        all_goals clear h48
        · refine (loop_to (s0 := ?s4) (fun k => q.length - k) (fun k => [(9, (iv ((k : Nat))))]) (fun k => []) (fun k K => (if digB (q.drop k) then K [(9, (iv q.length))] [] else some (.tu [.pv false (.sl []), .pv false (.sl []), (bv false)], []))) (fun k => k ≤ q.length) 0 ?hc4 ?h04 ?hs4 ?step4).trans ?r4
          case hc4 => simp; rfl
          case h04 => first | (simp; done) | (simp [*]; done) | exact ⟨by simp, ⟨rfl⟩⟩ | grind | (simp; omega)
          case hs4 => first | (simp; done) | (simp [*]; done)
          case r4 => cases hd : digB q <;> simp [hg, hr, hp, hnm, hd, hr, hg, hp8, hp16, hp24]
          intro k i hi ih
          simp [hg]
          (first | refine ifL_cases (fun h => ?_) (fun h => ?_) | refine gI_cases' (fun h => ?_) (fun h => ?_) | refine gI_cases (fun h => ?_) (fun h => ?_) | refine dI_cases' (fun h => ?_) (fun h => ?_) | refine dI_cases (fun h => ?_) (fun h => ?_)) <;> first | replace h := of_decide_eq_true h | replace h := of_decide_eq_false h | skip
          · have hlt := h
            rw [digB_at hlt]
            simp [hg, hlt, hr, hg, hp8, hp16, hp24]
            repeat' ((first | refine ifL_cases (fun h => ?_) (fun h => ?_) | refine gI_cases' (fun h => ?_) (fun h => ?_) | refine gI_cases (fun h => ?_) (fun h => ?_) | refine dI_cases' (fun h => ?_) (fun h => ?_) | refine dI_cases (fun h => ?_) (fun h => ?_)) <;> first | replace h := of_decide_eq_true h | replace h := of_decide_eq_false h | skip
                     all_goals try simp [hr, hg, hp8, hp16, hp24, *])
            all_goals try simp (disch := omega) only [wrap_id']
            all_goals try simp [hg, hr]
            all_goals first | (refine (ih.out (i + 1) _ (by first | omega | grind) (by first | omega | (refine And.intro ?_ ?_; focus omega; (simp [*]; done)) | grind) (by first | (simp [*]; done) | (simp [*]; omega))).trans ?_; try simp [*]) | skip
            all_goals clear ih
            all_goals grind
          · have e : i = q.length := by omega
            subst e
            simp [hg, digB]
        · refine (loop_to (s0 := ?s5) (fun k => q.length - k) (fun k => [(9, (iv ((k : Nat))))]) (fun k => []) (fun k K => (if digB (q.drop k) then K [(9, (iv q.length))] [] else some (.tu [.pv false (.sl []), .pv false (.sl []), (bv false)], []))) (fun k => k ≤ q.length) 0 ?hc5 ?h05 ?hs5 ?step5).trans ?r5
          case hc5 => simp; rfl
          case h05 => first | (simp; done) | (simp [*]; done) | exact ⟨by simp, ⟨rfl⟩⟩ | grind | (simp; omega)
          case hs5 => first | (simp; done) | (simp [*]; done)
          case r5 => cases hd : digB q <;> simp [hg, hr, hp, hnm, hd, hr, hg, hp8, hp16, hp24]
          intro k i hi ih
          simp [hg]
          (first | refine ifL_cases (fun h => ?_) (fun h => ?_) | refine gI_cases' (fun h => ?_) (fun h => ?_) | refine gI_cases (fun h => ?_) (fun h => ?_) | refine dI_cases' (fun h => ?_) (fun h => ?_) | refine dI_cases (fun h => ?_) (fun h => ?_)) <;> first | replace h := of_decide_eq_true h | replace h := of_decide_eq_false h | skip
          · have hlt := h
            rw [digB_at hlt]
            simp [hg, hlt, hr, hg, hp8, hp16, hp24]
            repeat' ((first | refine ifL_cases (fun h => ?_) (fun h => ?_) | refine gI_cases' (fun h => ?_) (fun h => ?_) | refine gI_cases (fun h => ?_) (fun h => ?_) | refine dI_cases' (fun h => ?_) (fun h => ?_) | refine dI_cases (fun h => ?_) (fun h => ?_)) <;> first | replace h := of_decide_eq_true h | replace h := of_decide_eq_false h | skip
                     all_goals try simp [hr, hg, hp8, hp16, hp24, *])
            all_goals try simp (disch := omega) only [wrap_id']
            all_goals try simp [hg, hr]
            all_goals first | (refine (ih.out (i + 1) _ (by first | omega | grind) (by first | omega | (refine And.intro ?_ ?_; focus omega; (simp [*]; done)) | grind) (by first | (simp [*]; done) | (simp [*]; omega))).trans ?_; try simp [*]) | skip
            all_goals clear ih
            all_goals grind
          · have e : i = q.length := by omega
            subst e
            simp [hg, digB]
    · have e : restB r = false := by unfold restB; simp [hg, hne, hlt1, h93]
      simp [hg, h93, hr, e]
  · have es : splitB l = false := by unfold splitB; rw [h]; rfl
    simp [hr, hg, hp8, hp16, hp24, hr, h, es]
 intro k i hi ih
 simp [hg]
 (first | refine ifL_cases (fun h => ?_) (fun h => ?_) | refine gI_cases' (fun h => ?_) (fun h => ?_) | refine gI_cases (fun h => ?_) (fun h => ?_) | refine dI_cases' (fun h => ?_) (fun h => ?_) | refine dI_cases (fun h => ?_) (fun h => ?_)) <;> first | replace h := of_decide_eq_true h | replace h := of_decide_eq_false h | skip
 · have hlt := h
   rw [posB_at hlt]
   simp [hr, hg, hp8, hp16, hp24, hlt]
   repeat' ((first | refine ifL_cases (fun h => ?_) (fun h => ?_) | refine gI_cases' (fun h => ?_) (fun h => ?_) | refine gI_cases (fun h => ?_) (fun h => ?_) | refine dI_cases' (fun h => ?_) (fun h => ?_) | refine dI_cases (fun h => ?_) (fun h => ?_)) <;> first | replace h := of_decide_eq_true h | replace h := of_decide_eq_false h | skip
            all_goals try simp [hr, hg, hp8, hp16, hp24, *])
   all_goals try simp (disch := omega) only [wrap_id']
   refine (ih.out (i + 1) _ ?_ ?_ ?_).trans ?_
   · omega
   · omega
   · simp [hg]
   · simp [hg, Int.add_assoc]
 · have e : i = l.length := by omega
   subst e
   simp [hg, posB]
 ) Tryz.f101 Tryz.results101 gl101)
theorem p58 (l : List Int) (hl : l.length ≤ 1048576) : phi C0 (lim C0) 58 [.pv false (.sl (nums .u8 l))] [] = some ((bv (splitB l)), []) := call0 Tryz.func58 (by kernel_rfl) ((show ∀ fn : Func, fn.results = #[.tmp 2] → lim C0 58 fn [.c (code Tryz.f58)] ⟨_, _⟩ = _ from fun fn hr => by
 have hp1 := plan58_1
 simp [opsOf, code, Tryz.f58] at hp1
 have q := p101 l hl
 cases h : splitB l <;> simp [h] at q <;> simp [code, Tryz.f58, hr, hp1, q]
 ) Tryz.f58 Tryz.results58)
end Go.Proofs.YtgbfmdihmnpcdaaGreatDoor
