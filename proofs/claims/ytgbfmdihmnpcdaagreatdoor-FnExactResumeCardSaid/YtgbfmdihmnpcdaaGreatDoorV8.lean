/- The two ways of telling what is ok are one. -/
import Derived.Test.YtgbfmdihmnpcdaaGreatDoorV7
namespace Go.Proofs.YtgbfmdihmnpcdaaGreatDoor
open Go Go.Pm Go.Proofs
set_option linter.unusedVariables false
set_option linter.unusedSimpArgs false
theorem ptV_pos (v : Val) : 1 ≤ ptV v := by rw [ptV_eq]; omega
theorem ptVs_len (l : List Val) : l.length ≤ ptVs l := by
 induction l with
 | nil => simp
 | cons v l ih => have := ptV_pos v; simp [ptVs]; omega
def okIs (v : Val) : Prop := ∀ (deep left : Int), 1 ≤ deep → deep ≤ 6 → 0 ≤ left → left ≤ 40 → okV v deep left = (if shV v (6 - deep) = true ∧ (ptV v : Int) ≤ left then left - ptV v else -1)
theorem okN_is : ∀ (l : List Val), (∀ u ∈ l, okIs u) → ∀ (deep left : Int), 1 ≤ deep → deep ≤ 6 → 0 ≤ left → left ≤ 40 → okL false none [] l deep left = (if shVs l (6 - deep) = true ∧ (ptVs l : Int) ≤ left then left - ptVs l else -1)
 | [], _, deep, left, _, _, h, _ => by simp [okL, shVs, h]
 | v :: l, hu, deep, left, h1, h2, h3, h4 => by
  have i1 := hu v (List.mem_cons_self ..) deep left h1 h2 h3 h4
  have hp := ptV_pos v
  rw [okL, okL_no, i1]
  simp only [shVs, ptVs, Bool.and_eq_true]
  by_cases hs : shV v (6 - deep) = true
  · by_cases hq : (ptV v : Int) ≤ left
    · have i2 := okN_is l (fun u hu' => hu u (List.mem_cons_of_mem _ hu')) deep (left - ptV v) h1 h2 (by omega) (by omega)
      simp [hs, hq, i2]
      have : ¬ left - (ptV v : Int) < 0 := by omega
      simp [this]
      by_cases h5 : shVs l (6 - deep) = true <;> simp [h5]
      by_cases h6 : (ptVs l : Int) ≤ left - ptV v
      · rw [if_pos h6, if_pos (by omega)]; omega
      · rw [if_neg h6, if_neg (by omega)]
    · have : ¬ (ptV v : Int) + ptVs l ≤ left := by omega
      simp [hs, hq, this]
  · simp [hs]
theorem okK_is : ∀ (l : List Val), (∀ u ∈ l, okIs u) → ∀ (q : Option (List Int)) (k : List (List Int)) (deep left : Int), k.length = l.length → 1 ≤ deep → deep ≤ 6 → 0 ≤ left → left ≤ 40 → okL true q k l deep left = (if ascB q k = true ∧ shVs l (6 - deep) = true ∧ (ptVs l : Int) ≤ left then left - ptVs l else -1)
 | [], _, q, k, deep, left, hk, _, _, h, _ => by
  have : k = [] := List.eq_nil_of_length_eq_zero (by simpa using hk)
  subst this
  simp [okL, shVs, h, ascB]
 | v :: l, hu, q, k, deep, left, hk, h1, h2, h3, h4 => by
  obtain _ | ⟨a, k⟩ := k
  · simp at hk
  have i1 := hu v (List.mem_cons_self ..) deep left h1 h2 h3 h4
  have hp := ptV_pos v
  have ea : ascB q (a :: k) = (!keyNo q (a :: k) && ascB (some a) k) := by
   cases q <;> simp [ascB, keyNo]
  rw [okL, i1, ea]
  simp only [shVs, ptVs, Bool.and_eq_true, Bool.true_and]
  cases hn : keyNo q (a :: k)
  · by_cases hs : shV v (6 - deep) = true
    · by_cases hq : (ptV v : Int) ≤ left
      · have i2 := okK_is l (fun u hu' => hu u (List.mem_cons_of_mem _ hu')) (some a) k deep (left - ptV v) (by simpa using hk) h1 h2 (by omega) (by omega)
        have : ¬ left - (ptV v : Int) < 0 := by omega
        simp [hs, hq, i2, this]
        by_cases h7 : ascB (some a) k = true <;> simp [h7]
        by_cases h5 : shVs l (6 - deep) = true <;> simp [h5]
        by_cases h6 : (ptVs l : Int) ≤ left - ptV v
        · rw [if_pos h6, if_pos (by omega)]; omega
        · rw [if_neg h6, if_neg (by omega)]
      · have : ¬ (ptV v : Int) + ptVs l ≤ left := by omega
        simp [hs, hq, this]
    · simp [hs]
  · simp
theorem okV_is (v : Val) : okIs v := by
 refine Val.ind1 (P := okIs) (fun v ih deep left h1 h2 h3 h4 => ?_) v
 have hp := ptV_eq v
 have hl := ptVs_len v.l
 rw [okV_eq, shV_eq]
 by_cases h0 : left - 1 < 0 ∨ 5 < deep
 · rw [if_pos h0]
   rcases h0 with h0 | h0
   · rw [if_neg (by omega)]
   · have : 6 - deep = 0 := by omega
     simp [this]
 rw [if_neg h0]
 have h5 : ¬ (6 - deep = 0) := by omega
 rw [if_neg h5]
 have e6 : 6 - deep - 1 = 6 - (deep + 1) := by omega
 have n1 := okN_is v.l ih (deep + 1) (left - 1) (by omega) (by omega) (by omega) (by omega)
 have k1 := fun hk => okK_is v.l ih none v.k (deep + 1) (left - 1) hk (by omega) (by omega) (by omega) (by omega)
 have e7 : ∀ c : Prop, [Decidable c] → True := fun _ _ => trivial
 have hz : v.l = [] → ptV v = 1 := fun h => by rw [hp, h]; rfl
 simp only [okL_no v.l none v.k, n1, e6, ← shVs_any]
 by_cases hk : v.kind = 4
 · simp only [hk]
   by_cases a1 : v.s = [] <;> by_cases a2 : v.k = [] <;> by_cases a3 : v.n = 0 <;> simp [a1, a2, a3]
   by_cases a4 : shVs v.l (6 - (deep + 1)) = true <;> simp [a4]
   by_cases a5 : (ptVs v.l : Int) ≤ left - 1
   · have a6 : v.l.length ≤ 40 := by omega
     have a7 : (ptV v : Int) ≤ left := by omega
     simp [a5, a6, a7]; omega
   · have a7 : ¬ (ptV v : Int) ≤ left := by omega
     simp [a5, a7]
 by_cases hk : v.kind = 5
 · simp only [hk]
   by_cases a2 : v.k.length = v.l.length
   · rw [k1 a2]
     by_cases a1 : v.s = [] <;> by_cases a3 : v.n = 0 <;> simp [a1, a2, a3]
     by_cases a8 : ascB none v.k = true <;> simp [a8]
     by_cases a4 : shVs v.l (6 - (deep + 1)) = true <;> simp [a4]
     by_cases a5 : (ptVs v.l : Int) ≤ left - 1
     · have a6 : v.l.length ≤ 40 := by omega
       have a7 : (ptV v : Int) ≤ left := by omega
       simp [a5, a6, a7]; omega
     · have a7 : ¬ (ptV v : Int) ≤ left := by omega
       simp [a5, a7]
   · simp [a2]
 by_cases b0 : v.kind = 0 ∨ v.kind = 6
 · have c1 : v.kind ≠ 3 := by omega
   have c2 : v.kind ≠ 5 := by omega
   have c3 : v.kind ≠ 1 ∧ v.kind ≠ 2 := by omega
   have c4 : v.kind ≠ 4 := by omega
   by_cases a1 : v.s = [] <;> by_cases a2 : v.k = [] <;> by_cases a3 : v.n = 0 <;> by_cases a4 : v.l = [] <;> simp [a1, a2, a3, a4, b0, c1, c2, c3, c4]
   rw [hz a4]
   simp
   omega
 by_cases b1 : v.kind = 1
 · by_cases a1 : v.s = [] <;> by_cases a2 : v.k = [] <;> by_cases a4 : v.l = [] <;> simp [a1, a2, a4, b1]
   rw [hz a4]
   cases inI v.n 0 1 <;> simp
   omega
 by_cases b2 : v.kind = 2
 · by_cases a1 : v.s = [] <;> by_cases a2 : v.k = [] <;> by_cases a4 : v.l = [] <;> simp [a1, a2, a4, b2]
   rw [hz a4]
   cases inI v.n (-1000000000000) 1000000000000 <;> simp
   omega
 by_cases b3 : v.kind = 3
 · by_cases a2 : v.k = [] <;> by_cases a3 : v.n = 0 <;> by_cases a4 : v.l = [] <;> simp [a2, a3, a4, b3]
   rw [hz a4]
   cases textB v.s <;> simp
   omega
 · simp [b0, b1, b2, b3, *]
theorem valOk_is (v : Val) : decide (0 ≤ okV v 1 40) = valB v := by
 rw [okV_is v 1 40 (by omega) (by omega) (by omega) (by omega)]
 unfold valB
 have : (6 : Int) - 1 = 5 := rfl
 rw [this]
 cases h : shV v 5
 · simp
 · by_cases h2 : (ptV v : Int) ≤ 40
   · have : ptV v ≤ 40 := by omega
     simp [this]; omega
   · have : ¬ ptV v ≤ 40 := by omega
     simp [this]; omega
theorem digs_atoi : ∀ n : Nat, n < 100 → Lib.atoiAll (strOfNums (digs n)).data.toList = .ok (n : Int) := by decide +kernel
theorem numB_iff (q : List Int) : numB q = true ↔ ∃ n : Nat, n < 100 ∧ q = digs n := by
 unfold numB
 constructor
 · intro h
   split at h
   · rename_i v _
     simp only [Bool.and_eq_true, decide_eq_true_eq] at h
     refine ⟨v.toNat, by omega, ?_⟩
     rw [← h.2]
     congr 1
     omega
   · cases h
 · rintro ⟨n, hn, rfl⟩
   rw [digs_atoi n hn]
   simp
   omega
theorem inQ_iff (q : List Int) (h : q.getD 0 0 ≠ 34) (h0 : q ≠ []) : inQ q = true ↔ ∃ n : Nat, n < 100 ∧ q = digs n := by
 unfold inQ
 rw [decide_eq_false h]
 simp only [cond_false]
 match q, h0 with
 | [a], _ =>
  simp [digB]
  constructor
  · intro h1
    refine ⟨(a - 48).toNat, by omega, ?_⟩
    unfold digs
    rw [if_pos (by omega)]
    simp; try omega
  · rintro ⟨n, hn, e⟩
    unfold digs at e
    split at e
    · simp at e; omega
    · simp at e
 | [a, b], _ =>
  simp [digB]
  constructor
  · rintro ⟨h1, h2, h3⟩
    refine ⟨((a - 48) * 10 + (b - 48)).toNat, by omega, ?_⟩
    unfold digs
    rw [if_neg (by omega)]
    simp; omega
  · rintro ⟨n, hn, e⟩
    unfold digs at e
    split at e
    · simp at e
    · simp at e; omega
 | a :: b :: c :: t, _ =>
  constructor
  · intro h1
    simp at h1
    try omega
  · rintro ⟨n, hn, e⟩
    unfold digs at e
    split at e <;> simp at e
theorem idx_pos : ∀ (l : List Int) (i : Nat), idxB 91 l i = if posB l < l.length then ((i + posB l : Nat) : Int) else -1
 | [], i => rfl
 | c :: l, i => by
  rw [idxB, posB]
  by_cases h : c = 91
  · simp [h]
  · rw [if_neg h, if_neg h, idx_pos l (i + 1)]
    simp only [List.length_cons]
    by_cases h2 : posB l < l.length
    · rw [if_pos h2, if_pos (by omega)]; omega
    · rw [if_neg h2, if_neg (by omega)]
theorem posB_get : ∀ {l : List Int} (h : posB l < l.length), l[posB l] = 91
 | c :: l, h => by
  by_cases hc : c = 91
  · subst hc; simp [posB]
  · have e : posB (c :: l) = posB l + 1 := by simp [posB, hc]; omega
    have h2 : posB l < l.length := by simp [posB, hc] at h; omega
    have := posB_get h2
    simp [e, this]
theorem suf_snoc (q : List Int) (c : Int) : hasSuf (q ++ [c]) [c] = true ∧ offSuf (q ++ [c]) [c] = q := by
 have h : hasSuf (q ++ [c]) [c] = true := by simp [hasSuf]
 exact ⟨h, by simp [offSuf, h]⟩
theorem suf_split {r : List Int} {c : Int} (h : hasSuf r [c] = true) : r = r.take (r.length - 1) ++ [c] := by
 simp [hasSuf] at h
 have := List.take_append_drop (r.length - 1) r
 rw [h.2] at this
 exact this.symm
theorem last_suf {r : List Int} (hr : r ≠ []) (c : Int) : decide (r.getD (r.length - 1) 0 = c) = hasSuf r [c] := by
 have hlt : r.length - 1 < r.length := by have := List.length_pos_iff.2 hr; omega
 have e : r.drop (r.length - 1) = [r[r.length - 1]] := by rw [List.drop_eq_getElem_cons hlt, List.drop_eq_nil_of_le (by omega)]
 have h1 : 1 ≤ r.length := List.length_pos_iff.2 hr
 simp [hasSuf, e, hlt, h1]
theorem restB_ins (r : List Int) : restB (91 :: r) = insB r := by
 unfold restB
 cases hs : hasSuf r [93]
 · have e1 : insB r = false := by unfold insB; simp [hs]
   rw [e1]
   rcases hr : r with _ | ⟨a, t⟩
   · simp
   · have hl := last_suf (r := r) (by rw [hr]; simp) 93
     rw [hs, hr] at hl
     simp only [decide_eq_false_iff_not] at hl
     have : (91 :: a :: t).getD ((91 :: a :: t).length - 1) 0 = (a :: t).getD ((a :: t).length - 1) 0 := by simp
     simp only [this, hl, decide_false, Bool.and_false, Bool.false_and, Bool.or_false]
     simp
 · obtain ⟨q, rfl⟩ : ∃ q, r = q ++ [93] := ⟨_, suf_split hs⟩
   have hof := (suf_snoc q 93).2
   have e0 : (91 :: (q ++ [93])).getD ((91 :: (q ++ [93])).length - 1) 0 = 93 := by simp
   have e2 : ((91 :: (q ++ [93])).drop 1).take ((91 :: (q ++ [93])).length - 1 - 1) = q := by simp
   have e3 : decide (3 ≤ (91 :: (q ++ [93])).length) = decide (q ≠ []) := by
    rcases q with _ | ⟨a, t⟩ <;> simp
   rw [e0, e2, e3]
   unfold insB
   rw [hof, hs]
   rcases hq : q with _ | ⟨a, t⟩
   · decide +kernel
   by_cases ha : a = 34
   · subst ha
     have p1 : hasPre (34 :: t) [34] = true := by simp [hasPre]
     have p2 : offPre (34 :: t) [34] = t := by simp [offPre, p1]
     rw [p1, p2]
     simp only [Bool.true_or, cond_true, Bool.true_and]
     unfold inQ
     simp only [List.getD_cons_zero, decide_true, cond_true]
     rcases ht : t with _ | ⟨b, u⟩
     · decide +kernel
     · have hl := last_suf (r := t) (by rw [ht]; simp) 34
       rw [ht] at hl
       have e4 : (34 :: b :: u).getD ((34 :: b :: u).length - 1) 0 = (b :: u).getD ((b :: u).length - 1) 0 := by simp
       have e5 : ((34 :: b :: u).drop 1).take ((34 :: b :: u).length - 1 - 1) = (b :: u).take ((b :: u).length - 1) := by simp
       rw [e4, hl, e5]
       cases h3 : hasSuf (b :: u) [34]
       · simp
       · have e6 : offSuf (b :: u) [34] = (b :: u).take ((b :: u).length - 1) := by simp [offSuf, h3]
         rw [e6]
         rcases u with _ | ⟨c, w⟩
         · simp [nameB]
         · simp
   · have p1 : hasPre (a :: t) [34] = false := by simp [hasPre, ha]
     have p2 : offPre (a :: t) [34] = a :: t := by simp [offPre, p1]
     rw [p1, p2]
     have hne : (a :: t : List Int) ≠ [] := by simp
     simp only [Bool.false_or, Bool.and_false, Bool.false_and, Bool.true_and]
     have hg : (a :: t).getD 0 0 ≠ 34 := by simpa using ha
     have hiff := inQ_iff (a :: t) hg hne
     have hn := numB_iff (a :: t)
     cases h3 : hasSuf (a :: t) [34]
     · have : inQ (a :: t) = numB (a :: t) := by
         rw [Bool.eq_iff_iff, hiff, hn]
       simp [this]
     · have : inQ (a :: t) = false := by
         by_cases hi : inQ (a :: t) = true
         · obtain ⟨n, hn, e⟩ := hiff.1 hi
           exfalso
           have h4 := suf_split h3
           have : (34 : Int) ∈ digs n := by rw [← e, h4]; simp
           unfold digs at this
           split at this <;> simp at this <;> omega
         · simpa using hi
       simp [this]
theorem addr_is (l : List Int) : splitB l = addrB l := by
 have hp := posB_le l
 have hi := idx_pos l 0
 unfold splitB addrB
 rw [hi]
 by_cases h : posB l < l.length
 · have e : l.drop (posB l) = 91 :: l.drop (posB l + 1) := by rw [List.drop_eq_getElem_cons h, posB_get h]
   rw [if_pos h, e, restB_ins]
   simp
   try (intros; omega)
 · have e : posB l = l.length := by omega
   rw [if_neg h, e]
   simp [restB]
end Go.Proofs.YtgbfmdihmnpcdaaGreatDoor
