/- What is left of a graph that was made bare leads where the graph leads; no edge of it can be spared. -/
import Derived.Test.YtopoaemlbnkhgaaG22
import Derived.Test.YtopoaemlbnkhgaaG20
namespace Go.Proofs.Ytopoaemlbnkhgaa
open Go Go.Pm Go.Proofs
set_option linter.unusedVariables false
set_option linter.unusedSimpArgs false
/-- Each stands behind all from which an edge comes. -/
def Topo (l : List Ed) (out : List Int) : Prop := ∀ (a b : List Int) (v : Int), out = a ++ v :: b → ∀ e ∈ l, e.2 = v → e.1 ∈ a
theorem blocked_no {out : List Int} {v : Int} : ∀ {l : List Ed}, blocked out v l = false → ∀ e ∈ l, e.2 = v → hasI out e.1 = true
  | [], _, e, h, _ => by cases h
  | x :: l, hb, e, he, hv => by
    simp only [blocked, Bool.or_eq_false_iff] at hb
    rcases List.mem_cons.1 he with rfl | he
    · have := hb.1
      simp [hv] at this
      exact this
    · exact blocked_no hb.2 e he hv
theorem topo_snoc {l : List Ed} {out : List Int} {k : Int} (ht : Topo l out) (hf : freeV out l k = true) : Topo l (out ++ [k]) := by
  intro a b v hs e he hv
  have hb : blocked out k l = false := by
    unfold freeV at hf
    cases h : blocked out k l <;> simp_all
  rcases List.eq_nil_or_concat b with rfl | ⟨b', x, rfl⟩
  · have := List.append_inj' hs rfl
    obtain ⟨rfl, h2⟩ := this
    simp at h2
    subst h2
    exact (hasI_iff _ _).1 (blocked_no hb e he hv)
  · have hs' : out ++ [k] = (a ++ v :: b') ++ [x] := by rw [hs]; simp
    have := List.append_inj' hs' rfl
    exact ht a b' v this.1 e he hv
theorem ordL_inv {n : Nat} {l : List Ed} (out : List Int) (h : out.length + left out n = n) (ht : Topo l out) : (ordL n l out).length + left (ordL n l out) n = n ∧ Topo l (ordL n l out) ∧ ∀ v : Nat, v < n → freeV (ordL n l out) l v = false := by
  generalize hm : left out n = m
  induction m using Nat.strongRecOn generalizing out with
  | ind m ih =>
    rcases nextU_eq (out := out) (l := l) (n := n) n 0 (by omega) with ⟨h5, h6⟩ | ⟨h5, h6, h7, h8⟩
    · rw [ordL_none (by omega)]
      exact ⟨h, ht, fun v hv => h6 v (Nat.zero_le _) hv⟩
    · have hl := left_lt (free_not h7) n h6
      rw [ordL_some rfl h6]
      exact ih _ (by omega) _ (by simp; omega) (topo_snoc ht h7) rfl
/-- There is a rank: edges go up. -/
def Rank (l : List Ed) : Prop := ∃ rk : Int → Nat, (∀ e ∈ l, rk e.1 < rk e.2) ∧ ∀ e ∈ l, ∀ f ∈ l, (rk e.1 = rk f.1 → e.1 = f.1) ∧ (rk e.2 = rk f.2 → e.2 = f.2)
theorem rank_of {n : Nat} {l : List Ed} (he : ∀ e ∈ l, edIn n e = true) (ho : n ≤ (ordL n l []).length) : Rank l := by
  obtain ⟨h1, h2, _⟩ := ordL_inv (n := n) (l := l) [] (by simp [left_nil]) (fun a b v h => by simp at h)
  have all : ∀ v : Int, 0 ≤ v → v < n → v ∈ ordL n l [] := fun v hv hn => by
    obtain ⟨k, hk⟩ := Int.eq_ofNat_of_zero_le hv
    rw [← hasI_iff]
    cases hh : hasI (ordL n l []) v with
    | true => rfl
    | false =>
      rw [hk] at hh
      have := left_pos hh n (by omega)
      omega
  have inj : ∀ v w : Int, v ∈ ordL n l [] → w ∈ ordL n l [] → (ordL n l []).idxOf v = (ordL n l []).idxOf w → v = w := fun v w hv hw h => by
    have h1 := List.idxOf_lt_length_of_mem hv
    have h2 := List.idxOf_lt_length_of_mem hw
    have e1 := List.getElem_idxOf h1
    have e2 := List.getElem_idxOf h2
    rw [← e1, ← e2]
    simp only [h]
  have ends : ∀ e ∈ l, e.1 ∈ ordL n l [] ∧ e.2 ∈ ordL n l [] := fun e hm => by
    have hin := he e hm
    simp only [edIn, Bool.and_eq_true, decide_eq_true_eq] at hin
    exact ⟨all _ hin.1.1.1 hin.1.1.2, all _ hin.1.2 hin.2⟩
  refine ⟨fun v => (ordL n l []).idxOf v, fun e hm => ?_, fun e he f hf => ⟨inj _ _ (ends e he).1 (ends f hf).1, inj _ _ (ends e he).2 (ends f hf).2⟩⟩
  obtain ⟨a, b, hs, hna⟩ := List.eq_append_cons_of_mem (ends e hm).2
  have ha := h2 a b e.2 hs e hm rfl
  show (ordL n l []).idxOf e.1 < (ordL n l []).idxOf e.2
  rw [hs, List.idxOf_append, if_pos ha, List.idxOf_append, if_neg hna, List.idxOf_cons_self]
  have := List.idxOf_lt_length_of_mem ha
  omega
theorem blocked_yes {out : List Int} {v : Int} : ∀ {l : List Ed}, blocked out v l = true → ∃ e ∈ l, e.2 = v ∧ hasI out e.1 = false
  | [], h => by cases h
  | x :: l, h => by
    simp only [blocked, Bool.or_eq_true, Bool.and_eq_true, decide_eq_true_eq, Bool.not_eq_true'] at h
    rcases h with ⟨h1, h2⟩ | h
    · exact ⟨x, List.mem_cons_self .., h1, h2⟩
    · obtain ⟨e, he, h1, h2⟩ := blocked_yes h
      exact ⟨e, List.mem_cons_of_mem _ he, h1, h2⟩
theorem full_of {n : Nat} {l : List Ed} (he : ∀ e ∈ l, edIn n e = true) (hr : Rank l) : n ≤ (ordL n l []).length := by
  obtain ⟨h1, _, h3⟩ := ordL_inv (n := n) (l := l) [] (by simp [left_nil]) (fun a b v h => by simp at h)
  obtain ⟨rk, hrk, _⟩ := hr
  generalize ordL n l [] = R at *
  have all : ∀ (m v : Nat), rk v = m → v < n → hasI R v = true := by
    intro m
    induction m using Nat.strongRecOn with
    | ind m ih =>
      intro v hv hn
      cases hh : hasI R v with
      | true => rfl
      | false =>
        have hf := h3 v hn
        have hb : blocked R v l = true := by
          unfold freeV at hf
          rw [hh] at hf
          simpa using hf
        obtain ⟨e, hm, e1, e2⟩ := blocked_yes hb
        have hin := he e hm
        simp only [edIn, Bool.and_eq_true, decide_eq_true_eq] at hin
        obtain ⟨k, hk⟩ := Int.eq_ofNat_of_zero_le hin.1.1.1
        have := hrk e hm
        rw [hk, e1] at this
        rw [hk, ih (rk k) (by omega) k rfl (by omega)] at e2
        cases e2
  have left0 : ∀ m, (∀ v : Nat, v < m → hasI R v = true) → left R m = 0 := by
    intro m
    induction m with
    | zero => intro _; rfl
    | succ m ih => intro h; simp [left, ih fun v hv => h v (by omega), h m (by omega)]
  rw [left0 n fun v hv => all _ v rfl hv] at h1
  omega
/-! ### ways -/
theorem Way.sub {l l' : List Ed} (h : ∀ e ∈ l, e ∈ l') {a x : Int} (w : Way l a x) : Way l' a x := by
  induction w with
  | one he h1 => exact .one (h _ he) h1
  | more _ he ih => exact .more ih (h _ he)
theorem Way.trans {l : List Ed} {a b c : Int} (w : Way l a b) (w' : Way l b c) : Way l a c := by
  induction w' with
  | one he h1 => exact .more (by rw [h1]; exact w) he
  | more _ he ih => exact .more ih he
theorem Way.rank {l : List Ed} {rk : Int → Nat} (hr : ∀ e ∈ l, rk e.1 < rk e.2) {a x : Int} (w : Way l a x) : rk a < rk x := by
  induction w with
  | one he h1 => rw [← h1]; exact hr _ he
  | more _ he ih => exact Nat.lt_trans ih (hr _ he)
/-- If each edge's ends are joined, a way is. -/
theorem Way.all {l k : List Ed} (h : ∀ e ∈ l, Way k e.1 e.2) {a x : Int} (w : Way l a x) : Way k a x := by
  induction w with
  | one he h1 => rw [← h1]; exact h _ he
  | more _ he ih => exact ih.trans (h _ he)
/-- The edges of a way lie between its ends. -/
theorem Way.between {l : List Ed} {rk : Int → Nat} (hr : ∀ e ∈ l, rk e.1 < rk e.2) {a x : Int} (w : Way l a x) : Way (l.filter fun e => decide (rk a ≤ rk e.1) && decide (rk e.2 ≤ rk x)) a x := by
  induction w with
  | @one e he h1 => exact .one (List.mem_filter.2 ⟨he, by simp [h1]⟩) h1
  | @more e w he ih =>
    have h1 := hr e he
    have h2 := Way.rank hr w
    refine .more (ih.sub fun x hx => ?_) (List.mem_filter.2 ⟨he, by simp; omega⟩)
    have := List.mem_filter.1 hx
    refine List.mem_filter.2 ⟨this.1, ?_⟩
    have := this.2
    simp at this ⊢
    omega
/-- What is kept of a graph without a ring leads where it leads. -/
theorem bare_way {l k : List Ed} (hr : Rank l) (hk : ∀ e ∈ k, e ∈ l) (hn : ∀ e ∈ l, e ∉ k → ∃ l', (∀ x ∈ l', x ∈ l ∧ x ≠ e) ∧ Way l' e.1 e.2) (a x : Int) : Way k a x ↔ Way l a x := by
  obtain ⟨rk, hrk, hinj⟩ := hr
  refine ⟨fun w => w.sub hk, fun w => w.all ?_⟩
  have : ∀ (m : Nat) (e : Ed), e ∈ l → rk e.2 - rk e.1 = m → Way k e.1 e.2 := by
    intro m
    induction m using Nat.strongRecOn with
    | ind m ih =>
      intro e he hm
      by_cases hek : e ∈ k
      · exact .one hek rfl
      · obtain ⟨l', h1, w⟩ := hn e he hek
        have w2 := w.between fun y hy => hrk y (h1 y hy).1
        refine w2.all fun y hy => ?_
        have hy1 := List.mem_filter.1 hy
        have hy2 := h1 y hy1.1
        have hy3 := hy1.2
        simp at hy3
        have h5 := hrk y hy2.1
        refine ih _ ?_ y hy2.1 rfl
        have h4 := hrk e he
        by_cases hsame : rk e.1 = rk y.1 ∧ rk y.2 = rk e.2
        · obtain ⟨i1, i2⟩ := hinj e he y hy2.1
          exact absurd (Prod.ext (i1 hsame.1).symm (i2 hsame.2.symm).symm) hy2.2
        · omega
  exact fun e he => this _ e he rfl
theorem lead_way {n : Nat} {l : List Ed} (he : ∀ e ∈ l, edIn n e = true) {i : Nat} (h : i < l.length) : leadS l n i = true ↔ Way (l.eraseIdx i) l[i].1 l[i].2 := by
  have e1 : exc (i : Int) 0 l = l.eraseIdx i := by simpa using exc_at l 0 i
  have e2 : leadS l n i = hasI (rnds (l.eraseIdx i) n (marks (nexts l[i].1 (l.eraseIdx i)) [])) l[i].2 := by
    unfold leadS
    rw [e1]
    simp [List.getD, h]
  rw [e2]
  exact reach_way (erase_in he i) l[i].1 l[i].2
theorem bareL_sub (f : Nat → Bool) (l : List Ed) : ∀ i, i ≤ l.length → (bareL f l i).Sublist (l.take i)
  | 0, _ => by simp [bareL]
  | i + 1, h => by
    have hi : i < l.length := by omega
    rw [bareL_at hi, take_at hi]
    refine List.Sublist.append (bareL_sub f l i (by omega)) ?_
    cases f i
    · exact List.nil_sublist _
    · exact List.Sublist.refl _
theorem bareL_mem (f : Nat → Bool) (l : List Ed) (e : Ed) : ∀ i, i ≤ l.length → (e ∈ bareL f l i ↔ ∃ (j : Nat) (h : j < l.length), j < i ∧ f j = true ∧ l[j] = e)
  | 0, _ => by simp [bareL]
  | i + 1, h => by
    have hi : i < l.length := by omega
    rw [bareL_at hi, List.mem_append, bareL_mem f l e i (by omega)]
    constructor
    · rintro (⟨j, h1, h2, h3⟩ | h1)
      · exact ⟨j, h1, by omega, h3⟩
      · cases hf : f i <;> rw [hf] at h1 <;> simp at h1
        exact ⟨i, hi, by omega, hf, h1.symm⟩
    · rintro ⟨j, h1, h2, h3, h4⟩
      by_cases hj : j = i
      · subst hj
        right
        rw [h3]
        simp [h4]
      · exact .inl ⟨j, h1, by omega, h3, h4⟩
theorem less_irr (a : Ed) : edLess a a = false := by simp [edLess]
theorem pair_inj {l : List Ed} (h : l.Pairwise (fun a b => edLess a b = true)) {i j : Nat} (hi : i < l.length) (hj : j < l.length) (e : l[i] = l[j]) : i = j := by
  rw [List.pairwise_iff_getElem] at h
  rcases Nat.lt_trichotomy i j with h1 | h1 | h1
  · have := h i j hi hj h1
    rw [e, less_irr] at this
    cases this
  · exact h1
  · have := h j i hj hi h1
    rw [e, less_irr] at this
    cases this
theorem erase_mem {l : List Ed} (h : l.Pairwise (fun a b => edLess a b = true)) {j : Nat} (hj : j < l.length) (x : Ed) : x ∈ l.eraseIdx j ↔ x ∈ l ∧ x ≠ l[j] := by
  rw [List.mem_eraseIdx_iff_getElem]
  constructor
  · rintro ⟨i, hi, hn, rfl⟩
    exact ⟨List.getElem_mem hi, fun e => hn (pair_inj h hi hj e)⟩
  · rintro ⟨hx, hn⟩
    obtain ⟨i, hi, rfl⟩ := List.getElem_of_mem hx
    exact ⟨i, hi, fun e => hn (by subst e; rfl), rfl⟩
section
variable {n : Nat} {l : List Ed} (hch : gChk n none l = true) (ho : n ≤ (ordL n l []).length)
include hch
/-- The edges that are kept. -/
abbrev kept (n : Nat) (l : List Ed) : List Ed := bareL (fun i => !leadS l n i) l l.length
omit hch in
theorem kept_sub : (kept n l).Sublist l := by
  have := bareL_sub (fun i => !leadS l n i) l l.length (Nat.le_refl _)
  rwa [List.take_length] at this
theorem kept_chk : gChk n none (kept n l) = true :=
  gChk_of (fun e he => gChk_in hch e ((kept_sub (n := n) (l := l)).subset he)) ((gChk_pair hch).sublist (kept_sub (n := n) (l := l))) (fun p hp => by cases hp)
include ho
theorem kept_way (a x : Int) : Way (kept n l) a x ↔ Way l a x := by
  have hin := gChk_in hch
  have hpr := gChk_pair hch
  refine bare_way (rank_of hin ho) (fun e he => (kept_sub (n := n) (l := l)).subset he) (fun e he hn => ?_) a x
  obtain ⟨j, hj, rfl⟩ := List.getElem_of_mem he
  have hl : leadS l n j = true := by
    cases h : leadS l n j with
    | true => rfl
    | false => exact absurd ((bareL_mem _ l _ l.length (Nat.le_refl _)).2 ⟨j, hj, hj, by simp [h], rfl⟩) hn
  exact ⟨l.eraseIdx j, fun x hx => (erase_mem hpr hj x).1 hx, (lead_way hin hj).1 hl⟩
theorem kept_full : n ≤ (ordL n (kept n l) []).length := by
  refine full_of (gChk_in (kept_chk hch)) ?_
  obtain ⟨rk, h1, h2⟩ := rank_of (gChk_in hch) ho
  have hs := fun e he => (kept_sub (n := n) (l := l)).subset (a := e) he
  exact ⟨rk, fun e he => h1 e (hs e he), fun e he f hf => h2 e (hs e he) f (hs f hf)⟩
omit ho in
theorem kept_none (i : Nat) (h : i < (kept n l).length) : leadS (kept n l) n i = false := by
  cases hb : leadS (kept n l) n i with
  | false => rfl
  | true =>
    have hin := gChk_in hch
    have hpr := gChk_pair hch
    have w := (lead_way (gChk_in (kept_chk hch)) h).1 hb
    obtain ⟨j, hj, _, hf, e⟩ := (bareL_mem (fun i => !leadS l n i) l (kept n l)[i] l.length (Nat.le_refl _)).1 (List.getElem_mem h)
    have hl : leadS l n j = true := by
      rw [lead_way hin hj, e]
      refine w.sub fun x hx => ?_
      have := (erase_mem (gChk_pair (kept_chk hch)) h x).1 hx
      rw [erase_mem hpr hj]
      exact ⟨(kept_sub (n := n) (l := l)).subset this.1, by rw [e]; exact this.2⟩
    simp [hl] at hf
omit ho in
theorem kept_again : kept n (kept n l) = kept n l := by
  have : ∀ i, i ≤ (kept n l).length → bareL (fun i => !leadS (kept n l) n i) (kept n l) i = (kept n l).take i := by
    intro i
    induction i with
    | zero => intro _; simp [bareL]
    | succ i ih =>
      intro hi
      rw [bareL_at (by omega), take_at (by omega), ih (by omega), kept_none hch i (by omega)]
      rfl
  have h := this _ (Nat.le_refl _)
  rwa [List.take_length] at h
end
end Go.Proofs.Ytopoaemlbnkhgaa
