/- What can be come to in a graph. -/
import Derived.Test.YtopoaemlbnkhgaaG5
namespace Go.Proofs.Ytopoaemlbnkhgaa
open Go Go.Pm Go.Proofs
set_option linter.unusedVariables false
set_option linter.unusedSimpArgs false
/-- One is marked, once. -/
def mark (s : List Int) (x : Int) : List Int := bif hasI s x then s else s ++ [x]
theorem hasI_mark (s : List Int) (x v : Int) : hasI (mark s x) v = (hasI s v || decide (x = v)) := by
  unfold mark
  cases h : hasI s x
  · simp [hasI_app, hasI]
  · by_cases e : x = v
    · subst e; simp [h]
    · simp [e]
theorem dones_mark (n : Nat) (s : List Int) (i : Nat) : (dones n s).set i true = dones n (mark s (i : Int)) := by
  apply List.ext_getElem
  · simp
  · intro j h1 h2
    simp only [dones_get, List.getElem_set, hasI_mark]
    by_cases e : i = j
    · subst e; simp
    · simp [e]
theorem left_mark {s : List Int} {v n : Nat} (h : v < n) : left (mark s (v : Int)) n + (bif hasI s (v : Int) then 0 else 1) = left s n := by
  unfold mark
  cases hv : hasI s (v : Int)
  · simpa using left_lt hv n h
  · simp
/-- There is a way of one edge or more. -/
inductive Way (l : List Ed) (a : Int) : Int → Prop
  | one {e : Ed} : e ∈ l → e.1 = a → Way l a e.2
  | more {e : Ed} : Way l a e.1 → e ∈ l → Way l a e.2
def rndE : List Ed → List Int → List Int
  | [], s => s
  | e :: l, s => rndE l (bif hasI s e.1 then mark s e.2 else s)
theorem rndE_at {l : List Ed} {i : Nat} {s : List Int} (h : i < l.length) : rndE (l.drop i) s = rndE (l.drop (i + 1)) (bif hasI s l[i].1 then mark s l[i].2 else s) := by rw [drop_at h]; rfl
def rnds (l : List Ed) : Nat → List Int → List Int
  | 0, s => s
  | k + 1, s => rnds l k (rndE l s)
theorem rnds_snoc (l : List Ed) : ∀ (k : Nat) (s : List Int), rnds l (k + 1) s = rndE l (rnds l k s)
  | 0, s => rfl
  | k + 1, s => by rw [rnds, rnds_snoc l k]; rfl
theorem rndE_mono (v : Int) : ∀ (l : List Ed) (s : List Int), hasI s v = true → hasI (rndE l s) v = true
  | [], s, h => h
  | e :: l, s, h => by
    refine rndE_mono v l _ ?_
    cases hasI s e.1
    · exact h
    · simp [hasI_mark, h]
theorem rnds_mono (v : Int) (l : List Ed) : ∀ (k : Nat) (s : List Int), hasI s v = true → hasI (rnds l k s) v = true
  | 0, s, h => h
  | k + 1, s, h => rnds_mono v l k _ (rndE_mono v l s h)
/-- Edges from it stay in it. -/
def Closed (l : List Ed) (s : List Int) : Prop := ∀ e ∈ l, hasI s e.1 = true → hasI s e.2 = true
theorem rndE_closed : ∀ (l : List Ed) (s : List Int), Closed l s → rndE l s = s
  | [], s, _ => rfl
  | e :: l, s, h => by
    have h1 := h e (List.mem_cons_self ..)
    have e1 : (bif hasI s e.1 then mark s e.2 else s) = s := by
      cases h2 : hasI s e.1
      · rfl
      · simp [mark, h1 h2]
    rw [rndE, e1]
    exact rndE_closed l s fun x hx => h x (List.mem_cons_of_mem _ hx)
theorem rndE_left {n : Nat} : ∀ (l : List Ed) (s : List Int), (∀ e ∈ l, edIn n e = true) → left (rndE l s) n ≤ left s n ∧ (left (rndE l s) n = left s n → Closed l s)
  | [], s, _ => ⟨Nat.le_refl _, fun _ e h => by cases h⟩
  | e :: l, s, h => by
    have he := h e (List.mem_cons_self ..)
    obtain ⟨k, hk⟩ : ∃ k : Nat, e.2 = k := Int.eq_ofNat_of_zero_le (by grind [edIn])
    have hkn : k < n := by have : e.2 < n := by grind [edIn]
                           omega
    have hm := left_mark (s := s) hkn
    rw [← hk] at hm
    obtain ⟨i1, i2⟩ := rndE_left l (bif hasI s e.1 then mark s e.2 else s) fun x hx => h x (List.mem_cons_of_mem _ hx)
    simp only [rndE]
    cases h1 : hasI s e.1
    · rw [h1] at i1 i2
      refine ⟨i1, fun hq x hx hx1 => ?_⟩
      rcases List.mem_cons.1 hx with rfl | hx
      · rw [h1] at hx1; cases hx1
      · exact i2 hq x hx hx1
    · rw [h1] at i1 i2
      simp only [cond_true] at i1 i2 ⊢
      cases h2 : hasI s e.2
      · rw [h2] at hm; simp at hm
        exact ⟨by omega, fun hq => by omega⟩
      · have e1 : mark s e.2 = s := by simp [mark, h2]
        rw [e1] at i1 i2 ⊢
        refine ⟨i1, fun hq x hx hx1 => ?_⟩
        rcases List.mem_cons.1 hx with rfl | hx
        · exact h2
        · exact i2 hq x hx hx1
theorem rnds_left {n : Nat} {l : List Ed} (h : ∀ e ∈ l, edIn n e = true) : ∀ (k : Nat) (s : List Int), Closed l (rnds l k s) ∨ left (rnds l k s) n + k ≤ left s n
  | 0, s => .inr (Nat.le_refl _)
  | k + 1, s => by
    rw [rnds_snoc]
    obtain ⟨j1, j2⟩ := rndE_left l (rnds l k s) h
    rcases rnds_left h k s with i1 | i1
    · rw [rndE_closed l _ i1]; exact .inl i1
    · by_cases hq : left (rndE l (rnds l k s)) n = left (rnds l k s) n
      · have c := j2 hq
        rw [rndE_closed l _ c]; exact .inl c
      · exact .inr (by omega)
theorem left_le (s : List Int) : ∀ n, left s n ≤ n
  | 0 => Nat.le_refl _
  | n + 1 => by have := left_le s n; simp only [left]; cases hasI s (n : Int) <;> simp <;> omega
theorem rnds_closed {n : Nat} {l : List Ed} (h : ∀ e ∈ l, edIn n e = true) (s : List Int) : Closed l (rnds l n s) := by
  rcases rnds_left h n s with i1 | i1
  · exact i1
  · have := left_le s n
    have h0 : left (rnds l n s) n = 0 := by omega
    intro e he _
    obtain ⟨k, hk⟩ : ∃ k : Nat, e.2 = k := Int.eq_ofNat_of_zero_le (by have := h e he; grind [edIn])
    have hkn : k < n := by have : e.2 < n := by have := h e he; grind [edIn]
                           omega
    cases hh : hasI (rnds l n s) e.2 with
    | true => rfl
    | false => rw [hk] at hh; have := left_pos hh n hkn; omega
theorem rndE_sound {l0 : List Ed} {a : Int} : ∀ (l : List Ed) (s : List Int), (∀ e ∈ l, e ∈ l0) → (∀ x, hasI s x = true → Way l0 a x) → ∀ x, hasI (rndE l s) x = true → Way l0 a x
  | [], s, _, h, x, hx => h x hx
  | e :: l, s, hl, h, x, hx => by
    refine rndE_sound l _ (fun y hy => hl y (List.mem_cons_of_mem _ hy)) (fun y hy => ?_) x hx
    cases h1 : hasI s e.1
    · rw [h1] at hy; exact h y hy
    · rw [h1] at hy
      simp only [cond_true, hasI_mark, Bool.or_eq_true, decide_eq_true_eq] at hy
      rcases hy with hy | rfl
      · exact h y hy
      · exact .more (h _ h1) (hl e (List.mem_cons_self ..))
theorem rnds_sound {l : List Ed} {a : Int} : ∀ (k : Nat) (s : List Int), (∀ x, hasI s x = true → Way l a x) → ∀ x, hasI (rnds l k s) x = true → Way l a x
  | 0, s, h, x, hx => h x hx
  | k + 1, s, h, x, hx => rnds_sound k _ (rndE_sound l s (fun _ h => h) h) x hx
/-- Those that are marked, below n, ascending. -/
def told (s : List Int) : Nat → List Int
  | 0 => []
  | n + 1 => told s n ++ (bif hasI s (n : Int) then [(n : Int)] else [])
/-- The ends of the edges from a. -/
def nexts (a : Int) : List Ed → List Int
  | [] => []
  | e :: l => bif decide (e.1 = a) then e.2 :: nexts a l else nexts a l
theorem nexts_has (a x : Int) : ∀ l : List Ed, hasI (nexts a l) x = true ↔ ∃ e ∈ l, e.1 = a ∧ e.2 = x
  | [] => by simp [nexts, hasI]
  | e :: l => by
    have ih := nexts_has a x l
    by_cases h : e.1 = a
    · simp [nexts, h, hasI, ih]
    · simp [nexts, h, ih]
def marks : List Int → List Int → List Int
  | [], s => s
  | x :: l, s => marks l (mark s x)
theorem marks_has (v : Int) : ∀ (l s : List Int), hasI (marks l s) v = (hasI s v || hasI l v)
  | [], s => by simp [marks, hasI]
  | x :: l, s => by rw [marks, marks_has v l, hasI_mark, hasI]; simp [Bool.or_assoc]
/-- What the reference comes to from the ends of the edges from a: what a way leads to. -/
theorem reach_way {n : Nat} {l : List Ed} (h : ∀ e ∈ l, edIn n e = true) (a x : Int) : hasI (rnds l n (marks (nexts a l) [])) x = true ↔ Way l a x := by
  constructor
  · refine rnds_sound n _ (fun y hy => ?_) x
    rw [marks_has] at hy
    simp only [hasI, Bool.false_or] at hy
    obtain ⟨e, he, h1, rfl⟩ := (nexts_has a y l).1 hy
    exact .one he h1
  · intro hw
    induction hw with
    | one he h1 =>
      refine rnds_mono _ l n _ ?_
      rw [marks_has, (nexts_has a _ l).2 ⟨_, he, h1, rfl⟩]; simp
    | more hw he ih => exact rnds_closed h _ _ he ih
/-- The program's way: those to look at, those that are marked. -/
def expd (v : Int) : List Ed → List Int × List Int → List Int × List Int
  | [], x => x
  | e :: l, x => expd v l (bif decide (e.1 = v) && !hasI x.2 e.2 then (x.1 ++ [e.2], x.2 ++ [e.2]) else x)
theorem expd_at {v : Int} {l : List Ed} {i : Nat} {x : List Int × List Int} (h : i < l.length) : expd v (l.drop i) x = expd v (l.drop (i + 1)) (bif decide (l[i].1 = v) && !hasI x.2 l[i].2 then (x.1 ++ [l[i].2], x.2 ++ [l[i].2]) else x) := by rw [drop_at h]; rfl
theorem expd_left {n : Nat} {v : Int} : ∀ (l : List Ed) (x : List Int × List Int), (∀ e ∈ l, edIn n e = true) → (expd v l x).1.length + left (expd v l x).2 n = x.1.length + left x.2 n ∧ left (expd v l x).2 n ≤ left x.2 n
  | [], x, _ => ⟨rfl, Nat.le_refl _⟩
  | e :: l, x, h => by
    obtain ⟨i1, i2⟩ := expd_left l (bif decide (e.1 = v) && !hasI x.2 e.2 then (x.1 ++ [e.2], x.2 ++ [e.2]) else x) fun y hy => h y (List.mem_cons_of_mem _ hy)
    simp only [expd]
    cases hc : (decide (e.1 = v) && !hasI x.2 e.2)
    · rw [hc] at i1 i2; exact ⟨i1, i2⟩
    · rw [hc] at i1 i2
      simp only [cond_true] at i1 i2 ⊢
      obtain ⟨k, hk⟩ : ∃ k : Nat, e.2 = k := Int.eq_ofNat_of_zero_le (by have := h e (List.mem_cons_self ..); grind [edIn])
      have hkn : k < n := by have : e.2 < n := by have := h e (List.mem_cons_self ..); grind [edIn]
                             omega
      have hv : hasI x.2 (k : Int) = false := by rw [← hk]; simp at hc; exact hc.2
      have := left_lt hv n hkn
      rw [← hk] at this
      simp at i1
      omega
/-- What the program comes to: those to look at, those that are marked. -/
def waysL (n : Nat) (l : List Ed) (h : ∀ e ∈ l, edIn n e = true) : List Int → List Int → List Int
  | [], s => s
  | v :: t, s => waysL n l h (expd v l (t, s)).1 (expd v l (t, s)).2
termination_by t s => left s n + left s n + t.length
decreasing_by
  have := expd_left (n := n) (v := v) l (t, s) h
  simp at this ⊢
  omega
theorem expd_mono (v : Int) (y : Int) : ∀ (l : List Ed) (x : List Int × List Int), (hasI x.2 y = true → hasI (expd v l x).2 y = true) ∧ (y ∈ x.1 → y ∈ (expd v l x).1)
  | [], x => ⟨fun h => h, fun h => h⟩
  | e :: l, x => by
    obtain ⟨i1, i2⟩ := expd_mono v y l (bif decide (e.1 = v) && !hasI x.2 e.2 then (x.1 ++ [e.2], x.2 ++ [e.2]) else x)
    simp only [expd]
    cases hc : (decide (e.1 = v) && !hasI x.2 e.2)
    · rw [hc] at i1 i2; exact ⟨i1, i2⟩
    · rw [hc] at i1 i2
      exact ⟨fun h => i1 (by simp [hasI_app, h]), fun h => i2 (by simp [h])⟩
/-- All that v leads to is marked. -/
theorem expd_all (v : Int) : ∀ (l : List Ed) (x : List Int × List Int), ∀ e ∈ l, e.1 = v → hasI (expd v l x).2 e.2 = true
  | [], _, e, h, _ => by cases h
  | a :: l, x, e, h, hv => by
    simp only [expd]
    rcases List.mem_cons.1 h with rfl | h
    · refine (expd_mono v _ l _).1 ?_
      cases hh : hasI x.2 e.2 <;> simp [hv, hh, hasI_app, hasI]
    · exact expd_all v l _ e h hv
/-- What is marked anew is to be looked at; it is an end of an edge from v. -/
theorem expd_new (v : Int) (y : Int) : ∀ (l : List Ed) (x : List Int × List Int), hasI (expd v l x).2 y = true → hasI x.2 y = true ∨ (y ∈ (expd v l x).1 ∧ ∃ e ∈ l, e.1 = v ∧ e.2 = y)
  | [], _, h => .inl h
  | a :: l, x, h => by
    simp only [expd] at h ⊢
    rcases expd_new v y l _ h with h1 | ⟨h1, e, h2, h3⟩
    · cases hc : (decide (a.1 = v) && !hasI x.2 a.2)
      · rw [hc] at h1; exact .inl h1
      · rw [hc] at h1
        simp only [cond_true, hasI_app, hasI, Bool.or_false, Bool.or_eq_true, decide_eq_true_eq] at h1
        rcases h1 with h1 | rfl
        · exact .inl h1
        · simp at hc
          refine .inr ⟨(expd_mono v _ l _).2 (by simp), a, List.mem_cons_self .., hc.1, rfl⟩
    · exact .inr ⟨h1, e, List.mem_cons_of_mem _ h2, h3⟩
theorem expd_todo (v : Int) (y : Int) : ∀ (l : List Ed) (x : List Int × List Int), y ∈ (expd v l x).1 → y ∈ x.1 ∨ hasI (expd v l x).2 y = true
  | [], _, h => .inl h
  | a :: l, x, h => by
    simp only [expd] at h ⊢
    rcases expd_todo v y l _ h with h1 | h1
    · cases hc : (decide (a.1 = v) && !hasI x.2 a.2)
      · rw [hc] at h1; exact .inl h1
      · rw [hc] at h1
        simp only [cond_true, List.mem_append, List.mem_singleton] at h1
        rcases h1 with h1 | rfl
        · exact .inl h1
        · exact .inr ((expd_mono v _ l _).1 (by simp [hasI_app, hasI]))
    · exact .inr h1
theorem ways_inv {n : Nat} {l : List Ed} (h : ∀ e ∈ l, edIn n e = true) (a : Int) (t s : List Int) :
    (∀ y ∈ t, y = a ∨ hasI s y = true) → (∀ p, p = a ∨ hasI s p = true → p ∈ t ∨ ∀ e ∈ l, e.1 = p → hasI s e.2 = true) → (∀ x, hasI s x = true → Way l a x) →
    ∀ x, hasI (waysL n l h t s) x = true ↔ Way l a x := by
  fun_induction waysL n l h t s with
  | case1 s =>
    intro _ h2 h3 x
    refine ⟨h3 x, fun hw => ?_⟩
    have cl : ∀ p, p = a ∨ hasI s p = true → ∀ e ∈ l, e.1 = p → hasI s e.2 = true := fun p hp => by
      rcases h2 p hp with h4 | h4
      · cases h4
      · exact h4
    induction hw with
    | one he h1 => exact cl a (.inl rfl) _ he h1
    | more hw he ih => exact cl _ (.inr ih) _ he rfl
  | case2 v t s ih =>
    intro h1 h2 h3
    refine ih (fun y hy => ?_) (fun p hp => ?_) (fun x hx => ?_)
    · rcases expd_todo v y l (t, s) hy with h4 | h4
      · rcases h1 y (List.mem_cons_of_mem _ h4) with h5 | h5
        · exact .inl h5
        · exact .inr ((expd_mono v y l (t, s)).1 h5)
      · exact .inr h4
    · by_cases hpv : p = v
      · subst hpv
        exact .inr fun e he h4 => expd_all p l (t, s) e he h4
      · have : (p = a ∨ hasI s p = true) ∨ p ∈ (expd v l (t, s)).1 := by
          rcases hp with hp | hp
          · exact .inl (.inl hp)
          · rcases expd_new v p l (t, s) hp with h4 | ⟨h4, _⟩
            · exact .inl (.inr h4)
            · exact .inr h4
        rcases this with h4 | h4
        · rcases h2 p h4 with h5 | h5
          · rcases List.mem_cons.1 h5 with h6 | h6
            · exact absurd h6 hpv
            · exact .inl ((expd_mono v p l (t, s)).2 h6)
          · exact .inr fun e he h6 => (expd_mono v _ l (t, s)).1 (h5 e he h6)
        · exact .inl h4
    · rcases expd_new v x l (t, s) hx with h4 | ⟨_, e, he, h5, rfl⟩
      · exact h3 x h4
      · rcases h1 v (List.mem_cons_self ..) with h6 | h6
        · exact .one he (h5.trans h6)
        · exact .more (by rw [h5]; exact h3 v h6) he
/-- What the program comes to is what a way leads to. -/
theorem ways_way {n : Nat} {l : List Ed} (h : ∀ e ∈ l, edIn n e = true) (a x : Int) : hasI (waysL n l h [a] []) x = true ↔ Way l a x :=
  ways_inv h a [a] [] (fun y hy => .inl (by simpa using hy)) (fun p hp => .inl (by rcases hp with rfl | hp; exact List.mem_singleton.2 rfl; simp [hasI] at hp)) (fun x hx => by simp [hasI] at hx) x
end Go.Proofs.Ytopoaemlbnkhgaa
