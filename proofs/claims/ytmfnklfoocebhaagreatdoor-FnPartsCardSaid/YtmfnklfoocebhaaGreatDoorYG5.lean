/- The order of a graph: what is reckoned. -/
import Derived.Test.YtmfnklfoocebhaaGreatDoorYG4
namespace Go.Proofs.YtmfnklfoocebhaaGreatDoor
open Go Go.Pm Go.Proofs
set_option linter.unusedVariables false
set_option linter.unusedSimpArgs false
def boP (b : Bool) : List PV := [.sc (.bool b)]
attribute [simp] boP
theorem boP_set (l : List Bool) (i : Nat) (b : Bool) : (rws boP l).set i [.sc (.bool b)] = rws boP (l.set i b) := rws_set boP l i b
/-- Which of n are among these. -/
def dones (n : Nat) (out : List Int) : List Bool := (List.range n).map fun (v : Nat) => hasI out (v : Int)
@[simp] theorem dones_len (n : Nat) (out : List Int) : (dones n out).length = n := by simp [dones]
@[simp] theorem dones_get (n : Nat) (out : List Int) (i : Nat) (h : i < (dones n out).length) : (dones n out)[i]'h = hasI out (i : Int) := by simp [dones]
theorem hasI_app (v : Int) : ∀ (l m : List Int), hasI (l ++ m) v = (hasI l v || hasI m v)
  | [], m => rfl
  | a :: l, m => by simp [hasI, hasI_app v l m, Bool.or_assoc]
theorem dones_set (n : Nat) (out : List Int) (i : Nat) : (dones n out).set i true = dones n (out ++ [(i : Int)]) := by
  apply List.ext_getElem
  · simp
  · intro j h1 h2
    simp only [dones_get, List.getElem_set, hasI_app, hasI]
    by_cases e : i = j
    · subst e; simp
    · simp [e]
theorem dones_nil (n : Nat) : dones n [] = List.replicate n false := by
  apply List.ext_getElem
  · simp
  · intro j h1 h2; simp [hasI]
/-- The cells of such an array. -/
def dnP (n : Nat) (out : List Int) : List PV := (dones n out).map fun b => .sc (.bool b)
@[simp] theorem dnP_len (n : Nat) (out : List Int) : (dnP n out).length = n := by simp [dnP]
@[simp] theorem dnP_get (n : Nat) (out : List Int) (i : Nat) (h : i < (dnP n out).length) : (dnP n out)[i]'h = .sc (.bool (hasI out (i : Int))) := by simp [dnP]
theorem dnP_nil (n : Nat) : dnP n [] = List.replicate n (.sc (.bool false)) := by simp [dnP, dones_nil]
theorem dnP_set (n : Nat) (out : List Int) (i : Nat) : (dnP n out).set i (.sc (.bool true)) = dnP n (out ++ [(i : Int)]) := by
  have := congrArg (List.map fun b => PV.sc (.bool b)) (dones_set n out i)
  rw [List.map_set] at this
  exact this
theorem dnP_spl (n : Nat) (out : List Int) (i : Nat) (h : i < n) : (dnP n out).take i ++ .sc (.bool true) :: (dnP n out).drop (i + 1) = dnP n (out ++ [(i : Int)]) := by
  rw [← dnP_set, List.set_eq_take_append_cons_drop, if_pos (by simpa using h)]
/-- Is there one ahead of v that is not told? -/
def blocked (out : List Int) (v : Int) : List Ed → Bool
  | [] => false
  | e :: l => (decide (e.2 = v) && !hasI out e.1) || blocked out v l
theorem blocked_at {out : List Int} {v : Int} {l : List Ed} {i : Nat} (h : i < l.length) : blocked out v (l.drop i) = ((decide (l[i].2 = v) && !hasI out l[i].1) || blocked out v (l.drop (i + 1))) := by rw [drop_at h]; rfl
theorem blocked_end {out : List Int} {v : Int} {l : List Ed} {i : Nat} (h : ¬ i < l.length) : blocked out v (l.drop i) = false := by rw [drop_end h]; rfl
def freeV (out : List Int) (l : List Ed) (v : Int) : Bool := !hasI out v && !blocked out v l
/-- The least one below m that is free, else nx. -/
def nextD (out : List Int) (l : List Ed) : Nat → Int → Int
  | 0, nx => nx
  | v + 1, nx => nextD out l v (bif freeV out l v then v else nx)
/-- The least one from v on that is free, below n; else n. -/
def nextU (out : List Int) (l : List Ed) (n : Nat) : Nat → Nat → Nat
  | 0, v => v
  | f + 1, v => bif freeV out l v then v else nextU out l n f (v + 1)
theorem nextD_lt {out : List Int} {l : List Ed} : ∀ (m : Nat) (nx : Int), (nextD out l m nx = nx ∧ ∀ v : Nat, v < m → freeV out l v = false) ∨ (∃ k : Nat, k < m ∧ nextD out l m nx = k ∧ freeV out l k = true ∧ ∀ v : Nat, v < k → freeV out l v = false)
  | 0, nx => .inl ⟨rfl, fun v h => by omega⟩
  | m + 1, nx => by
    rcases nextD_lt m (bif freeV out l m then (m : Int) else nx) with ⟨h1, h2⟩ | ⟨k, h1, h2, h3, h4⟩
    · cases hf : freeV out l m with
      | true => exact .inr ⟨m, by omega, by simp only [nextD, hf]; rw [hf] at h1; exact h1, hf, h2⟩
      | false =>
        refine .inl ⟨by simp only [nextD, hf]; rw [hf] at h1; exact h1, fun v hv => ?_⟩
        rcases Nat.lt_or_eq_of_le (Nat.le_of_lt_succ hv) with h | h
        · exact h2 v h
        · rw [h]; exact hf
    · exact .inr ⟨k, by omega, h2, h3, h4⟩
theorem nextU_eq {out : List Int} {l : List Ed} {n : Nat} : ∀ (f v : Nat), v + f = n → (nextU out l n f v = n ∧ ∀ w : Nat, v ≤ w → w < n → freeV out l w = false) ∨ (v ≤ nextU out l n f v ∧ nextU out l n f v < n ∧ freeV out l (nextU out l n f v) = true ∧ ∀ w : Nat, v ≤ w → w < nextU out l n f v → freeV out l w = false)
  | 0, v, h => .inl ⟨by simpa [nextU] using h, fun w h1 h2 => by omega⟩
  | f + 1, v, h => by
    cases hf : freeV out l v with
    | true => exact .inr ⟨by simp [nextU, hf], by simp [nextU, hf]; omega, by simp [nextU, hf], fun w h1 h2 => by simp [nextU, hf] at h2; omega⟩
    | false =>
      simp only [nextU, hf, cond_false]
      rcases nextU_eq (out := out) (l := l) (n := n) f (v + 1) (by omega) with ⟨h1, h2⟩ | ⟨h1, h2, h3, h4⟩
      · refine .inl ⟨h1, fun w a b => ?_⟩
        rcases Nat.lt_or_eq_of_le a with c | c
        · exact h2 w c b
        · rw [← c]; exact hf
      · refine .inr ⟨by omega, h2, h3, fun w a b => ?_⟩
        rcases Nat.lt_or_eq_of_le a with c | c
        · exact h4 w c b
        · rw [← c]; exact hf
/-- Both ways to look for the next one agree. -/
theorem next_same (out : List Int) (l : List Ed) (n : Nat) : nextD out l n (-1) = if nextU out l n n 0 < n then (nextU out l n n 0 : Int) else -1 := by
  rcases nextD_lt (out := out) (l := l) n (-1) with ⟨h1, h2⟩ | ⟨k, h1, h2, h3, h4⟩
  · rcases nextU_eq (out := out) (l := l) (n := n) n 0 (by omega) with ⟨h5, h6⟩ | ⟨h5, h6, h7, h8⟩
    · rw [h1, h5]; simp
    · rw [h2 _ h6] at h7; cases h7
  · rcases nextU_eq (out := out) (l := l) (n := n) n 0 (by omega) with ⟨h5, h6⟩ | ⟨h5, h6, h7, h8⟩
    · rw [h6 k (by omega) h1] at h3; cases h3
    · rw [h2, if_pos h6]
      have : k = nextU out l n n 0 := by
        rcases Nat.lt_trichotomy k (nextU out l n n 0) with h | h | h
        · rw [h8 k (by omega) h] at h3; cases h3
        · exact h
        · rw [h4 _ h] at h7; cases h7
      rw [← this]
/-- How many below m are not told. -/
def left (out : List Int) : Nat → Nat
  | 0 => 0
  | m + 1 => left out m + (bif hasI out (m : Int) then 0 else 1)
theorem left_ge {out : List Int} {v : Nat} : ∀ m, m ≤ v → left (out ++ [(v : Int)]) m = left out m
  | 0, _ => rfl
  | m + 1, h => by
    have e : ¬ (v : Int) = (m : Int) := by omega
    simp [left, left_ge (out := out) (v := v) m (by omega), hasI_app, hasI, e]
theorem left_lt {out : List Int} {v : Nat} (hv : hasI out (v : Int) = false) : ∀ m, v < m → left (out ++ [(v : Int)]) m + 1 = left out m
  | 0, h => by omega
  | m + 1, h => by
    by_cases e : v = m
    · subst e; simp [left, left_ge (out := out) (v := v) v (Nat.le_refl _), hasI_app, hasI, hv]
    · have ih := left_lt hv m (by omega)
      have e : ¬ (v : Int) = (m : Int) := by omega
      simp [left, hasI_app, hasI, e]; omega
theorem left_pos {out : List Int} {v : Nat} (hv : hasI out (v : Int) = false) : ∀ m, v < m → 0 < left out m := fun m h => by have := left_lt hv m h; omega
theorem left_nil : ∀ m, left [] m = m
  | 0 => rfl
  | m + 1 => by simp [left, left_nil m, hasI]
theorem free_not {out : List Int} {l : List Ed} {v : Int} (h : freeV out l v = true) : hasI out v = false := by
  unfold freeV at h
  cases hh : hasI out v <;> simp_all
/-- All in order, as far as they go. -/
def ordL (n : Nat) (l : List Ed) (out : List Int) : List Int :=
  if h : nextU out l n n 0 < n then ordL n l (out ++ [(nextU out l n n 0 : Int)]) else out
termination_by left out n
decreasing_by
  rcases nextU_eq (out := out) (l := l) (n := n) n 0 (by omega) with ⟨h5, h6⟩ | ⟨h5, h6, h7, h8⟩
  · omega
  · have := left_lt (free_not h7) n h6; omega
theorem gChk_in {n : Int} : ∀ {l : List Ed} {p : Option Ed}, gChk n p l = true → ∀ e ∈ l, edIn n e = true
  | [], _, _, e, h => by cases h
  | a :: l, p, h, e, he => by
    have h' : edIn n a = true ∧ gChk n (some a) l = true := by cases p <;> simp [gChk] at h <;> grind
    rcases List.mem_cons.1 he with rfl | he
    · exact h'.1
    · exact gChk_in h'.2 e he
end Go.Proofs.YtmfnklfoocebhaaGreatDoor
