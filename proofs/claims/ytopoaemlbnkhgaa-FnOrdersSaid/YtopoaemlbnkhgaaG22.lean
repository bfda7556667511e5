/- What the program comes to is what the reference comes to. -/
import Derived.Test.YtopoaemlbnkhgaaG21
import Derived.Test.YtopoaemlbnkhgaaG19
namespace Go.Proofs.Ytopoaemlbnkhgaa
open Go Go.Pm Go.Proofs
set_option linter.unusedVariables false
set_option linter.unusedSimpArgs false
theorem hasI_iff (v : Int) : ∀ l : List Int, hasI l v = true ↔ v ∈ l
  | [] => by simp [hasI]
  | x :: l => by
    simp only [hasI, Bool.or_eq_true, decide_eq_true_eq, List.mem_cons, hasI_iff v l]
    constructor
    · rintro (rfl | h)
      · exact .inl rfl
      · exact .inr h
    · rintro (rfl | h)
      · exact .inl rfl
      · exact .inr h
/-- Two ascending lists of the same numbers are one. -/
theorem asc_ext : ∀ {k l : List Int}, k.Pairwise (· < ·) → l.Pairwise (· < ·) → (∀ x, x ∈ k ↔ x ∈ l) → k = l
  | [], [], _, _, _ => rfl
  | [], y :: l, _, _, h => absurd ((h y).2 (List.mem_cons_self ..)) (by simp)
  | x :: k, [], _, _, h => absurd ((h x).1 (List.mem_cons_self ..)) (by simp)
  | x :: k, y :: l, hk, hl, h => by
    rw [List.pairwise_cons] at hk hl
    have e : x = y := by
      have h1 := (h x).1 (List.mem_cons_self ..)
      have h2 := (h y).2 (List.mem_cons_self ..)
      rcases List.mem_cons.1 h1 with h1 | h1
      · exact h1
      · rcases List.mem_cons.1 h2 with h2 | h2
        · exact h2.symm
        · have a := hl.1 x h1
          have b := hk.1 y h2
          omega
    subst e
    rw [asc_ext hk.2 hl.2 fun z => ?_]
    constructor
    · intro hz
      rcases List.mem_cons.1 ((h z).1 (List.mem_cons_of_mem _ hz)) with e | h'
      · have := hk.1 z hz; omega
      · exact h'
    · intro hz
      rcases List.mem_cons.1 ((h z).2 (List.mem_cons_of_mem _ hz)) with e | h'
      · have := hl.1 z hz; omega
      · exact h'
theorem told_mem (s : List Int) (n : Nat) (x : Int) : x ∈ told s n ↔ (0 ≤ x ∧ x < n) ∧ hasI s x = true := by
  by_cases h0 : 0 ≤ x
  · obtain ⟨v, rfl⟩ := Int.eq_ofNat_of_zero_le h0
    rw [← hasI_iff, hasI_told]
    simp
  · constructor
    · intro h
      exfalso
      have : ∀ n, ∀ y ∈ told s n, 0 ≤ y := by
        intro n
        induction n with
        | zero => intro y hy; cases hy
        | succ n ih =>
          intro y hy
          simp only [told, List.mem_append] at hy
          rcases hy with hy | hy
          · exact ih y hy
          · cases hs : hasI s (n : Int) <;> rw [hs] at hy <;> simp at hy
            omega
      exact h0 (this n x h)
    · intro h; omega
theorem told_asc (s : List Int) : ∀ n, (told s n).Pairwise (· < ·)
  | 0 => .nil
  | n + 1 => by
    rw [told, List.pairwise_append]
    refine ⟨told_asc s n, ?_, fun a ha b hb => ?_⟩
    · cases hasI s (n : Int)
      · exact .nil
      · exact List.pairwise_singleton ..
    · have h1 := (told_mem s n a).1 ha
      cases hs : hasI s (n : Int) <;> rw [hs] at hb <;> simp at hb
      omega
theorem cptA_mem : ∀ (l : List Int) (p x : Int), x ∈ p :: cptA p l ↔ x ∈ p :: l
  | [], p, x => Iff.rfl
  | y :: l, p, x => by
    simp only [cptA]
    cases h : decide (y = p)
    · have ih := cptA_mem l y x
      simp only [cond_false, List.mem_cons] at ih ⊢
      rw [ih]
    · have e : y = p := of_decide_eq_true h
      subst e
      have ih := cptA_mem l y x
      simp only [cond_true, List.mem_cons] at ih ⊢
      rw [ih]
      simp
theorem cptI_mem (l : List Int) (x : Int) : x ∈ cptI l ↔ x ∈ l := by
  cases l with
  | nil => exact Iff.rfl
  | cons p l => exact cptA_mem l p x
theorem cptA_asc : ∀ (l : List Int) (p : Int), (p :: l).Pairwise (· ≤ ·) → (p :: cptA p l).Pairwise (· < ·)
  | [], p, _ => by simp [cptA]
  | y :: l, p, h => by
    rw [List.pairwise_cons] at h
    have h1 := h.1 y (List.mem_cons_self ..)
    simp only [cptA]
    cases hd : decide (y = p)
    · have hne : ¬ y = p := of_decide_eq_false hd
      have ih := cptA_asc l y h.2
      simp only [cond_false]
      rw [List.pairwise_cons]
      refine ⟨fun z hz => ?_, ih⟩
      rcases List.mem_cons.1 hz with rfl | hz
      · omega
      · have := (List.pairwise_cons.1 ih).1 z hz
        omega
    · have e : y = p := of_decide_eq_true hd
      subst e
      exact cptA_asc l y h.2
theorem cptI_asc {l : List Int} (h : l.Pairwise (· ≤ ·)) : (cptI l).Pairwise (· < ·) := by
  cases l with
  | nil => exact .nil
  | cons p l => exact cptA_asc l p h
theorem sortI_le (l : List Int) : (sortI l).Pairwise (· ≤ ·) := by
  have := List.pairwise_mergeSort (le := fun x y : Int => decide (x ≤ y)) (fun a b c h1 h2 => by simp at *; omega) (fun a b => by simp; omega) l
  exact this.imp fun h => by simpa using h
theorem cat_mem (f : Int → List Int) (x : Int) : ∀ l : List Int, x ∈ cat f l ↔ ∃ u ∈ l, x ∈ f u
  | [] => by simp [cat]
  | v :: l => by simp [cat, cat_mem f x l]
theorem rndE_soundP {l0 : List Ed} {P : Int → Prop} (hP : ∀ e ∈ l0, P e.1 → P e.2) : ∀ (l : List Ed) (s : List Int), (∀ e ∈ l, e ∈ l0) → (∀ x, hasI s x = true → P x) → ∀ x, hasI (rndE l s) x = true → P x
  | [], s, _, h, x, hx => h x hx
  | e :: l, s, hl, h, x, hx => by
    refine rndE_soundP hP l _ (fun y hy => hl y (List.mem_cons_of_mem _ hy)) (fun y hy => ?_) x hx
    cases h1 : hasI s e.1
    · rw [h1] at hy; exact h y hy
    · rw [h1] at hy
      simp only [cond_true, hasI_mark, Bool.or_eq_true, decide_eq_true_eq] at hy
      rcases hy with hy | rfl
      · exact h y hy
      · exact hP e (hl e (List.mem_cons_self ..)) (h _ h1)
theorem rnds_soundP {l : List Ed} {P : Int → Prop} (hP : ∀ e ∈ l, P e.1 → P e.2) : ∀ (k : Nat) (s : List Int), (∀ x, hasI s x = true → P x) → ∀ x, hasI (rnds l k s) x = true → P x
  | 0, s, h, x, hx => h x hx
  | k + 1, s, h, x, hx => rnds_soundP hP k _ (rndE_soundP hP l s (fun _ h => h) h) x hx
theorem reach_from {n : Nat} {l : List Ed} (h : ∀ e ∈ l, edIn n e = true) (s : List Int) (x : Int) : hasI (rnds l n (marks s [])) x = true ↔ x ∈ s ∨ ∃ u ∈ s, Way l u x := by
  constructor
  · refine rnds_soundP (P := fun x => x ∈ s ∨ ∃ u ∈ s, Way l u x) (fun e he hx => ?_) n _ (fun y hy => ?_) x
    · rcases hx with hx | ⟨u, hu, hw⟩
      · exact .inr ⟨e.1, hx, .one he rfl⟩
      · exact .inr ⟨u, hu, .more hw he⟩
    · rw [marks_has] at hy
      simp only [hasI, Bool.false_or] at hy
      exact .inl ((hasI_iff y s).1 hy)
  · have hs : ∀ y, y ∈ s → hasI (rnds l n (marks s [])) y = true := fun y hy => rnds_mono y l n _ (by rw [marks_has]; simp [(hasI_iff y s).2 hy])
    have hc := rnds_closed h (marks s [])
    rintro (hx | ⟨u, hu, hw⟩)
    · exact hs x hx
    · have hall : ∀ {y}, Way l u y → hasI (rnds l n (marks s [])) y = true := by
        intro y hy
        induction hy with
        | one he h1 => exact hc _ he (by rw [h1]; exact hs u hu)
        | more _ he ih => exact hc _ he ih
      exact hall hw
theorem way_in {n : Nat} {l : List Ed} (h : ∀ e ∈ l, edIn n e = true) {u x : Int} (hw : Way l u x) : 0 ≤ x ∧ x < n := by
  cases hw with
  | one he _ => have := h _ he; grind [edIn]
  | more _ he => have := h _ he; grind [edIn]
theorem reach_eq {n : Nat} {l : List Ed} (he : ∀ e ∈ l, edIn n e = true) (hn : n ≤ 20) {s : List Int} (hs : ∀ x ∈ s, 0 ≤ x ∧ x < n) (f : Int → List Int) (hf : ∀ (v : Int) (_ : 0 ≤ v ∧ v < n), f v = told (waysL n l he [v] []) 20) :
    cptI (sortI (s ++ cat f s)) = told (rnds l n (marks s [])) n := by
  refine asc_ext (cptI_asc (sortI_le _)) (told_asc _ _) fun x => ?_
  rw [cptI_mem]
  unfold sortI
  rw [List.mem_mergeSort, List.mem_append, cat_mem, told_mem, reach_from he]
  constructor
  · rintro (h | ⟨u, hu, h⟩)
    · exact ⟨hs x h, .inl h⟩
    · rw [hf u (hs u hu), told_mem, ways_way] at h
      exact ⟨way_in he h.2, .inr ⟨u, hu, h.2⟩⟩
  · rintro ⟨hx, h | ⟨u, hu, h⟩⟩
    · exact .inl h
    · refine .inr ⟨u, hu, ?_⟩
      rw [hf u (hs u hu), told_mem, ways_way]
      exact ⟨by omega, h⟩
end Go.Proofs.Ytopoaemlbnkhgaa
