/- What a search among ascending entries finds. -/
import Derived.Test.YtgkhojgmpojodaaGreatDoorW8
namespace Go.Proofs.YtgkhojgmpojodaaGreatDoor
open Go Go.Pm Go.Proofs
set_option linter.unusedVariables false
set_option linter.unusedSimpArgs false
theorem cmpB_self : ∀ a : List Int, cmpB a a = 0
  | [] => rfl
  | x :: a => by simp [cmpB, cmpB_self a]
theorem cmpB_trans : ∀ {a b c : List Int}, cmpB a b < 0 → cmpB b c < 0 → cmpB a c < 0
  | [], [], _, h, _ => by simp [cmpB] at h
  | [], _ :: _, [], _, h => by simp [cmpB] at h
  | [], _ :: _, _ :: _, _, _ => by simp [cmpB]
  | _ :: _, [], _, h, _ => by simp [cmpB] at h
  | _ :: _, _ :: _, [], _, h => by simp [cmpB] at h
  | x :: a, y :: b, z :: c, h, k => by
    simp only [cmpB] at h k ⊢
    by_cases h1 : x < y
    · by_cases k1 : y < z
      · rw [if_pos (by omega)]; decide
      · rw [if_neg k1] at k
        by_cases k2 : z < y
        · rw [if_pos k2] at k; cases k
        · rw [if_pos (by omega)]; decide
    · rw [if_neg h1] at h
      by_cases h2 : y < x
      · rw [if_pos h2] at h; cases h
      · rw [if_neg h2] at h
        by_cases k1 : y < z
        · rw [if_pos (by omega)]; decide
        · rw [if_neg k1] at k
          by_cases k2 : z < y
          · rw [if_pos k2] at k; cases k
          · rw [if_neg k2] at k
            rw [if_neg (by omega), if_neg (by omega)]
            exact cmpB_trans h k
def Srt (l : List En) : Prop := ∀ (s t : Nat) (x y : En), s < t → l[s]? = some x → l[t]? = some y → cmpB x.addr y.addr < 0
theorem bsN_spec {a : List Int} {l : List En} (hs : Srt l) : ∀ (n i j : Nat), j - i ≤ n → i ≤ j → j ≤ l.length → (∀ t x, t < i → l[t]? = some x → cmpB x.addr a < 0) → (∀ t x, j ≤ t → l[t]? = some x → ¬ cmpB x.addr a < 0) →
    (∀ t x, t < bsN a l i j → l[t]? = some x → cmpB x.addr a < 0) ∧ (∀ t x, bsN a l i j ≤ t → l[t]? = some x → ¬ cmpB x.addr a < 0) := by
  intro n
  induction n with
  | zero =>
    intro i j h1 h2 h3 h4 h5
    have : i = j := by omega
    subst this
    rw [bsN, if_neg (by omega)]
    exact ⟨h4, h5⟩
  | succ n ih =>
    intro i j h1 h2 h3 h4 h5
    rw [bsN]
    by_cases hlt : i < j
    · rw [if_pos hlt]
      have hm : (i + j) / 2 < l.length := by omega
      have m1 : i ≤ (i + j) / 2 := by omega
      have m2 : (i + j) / 2 < j := by omega
      generalize (i + j) / 2 = m at *
      have em : l[m]? = some l[m] := List.getElem?_eq_getElem hm
      rw [em]
      dsimp only
      by_cases hc : cmpB l[m].addr a < 0
      · rw [if_pos hc]
        refine ih (m + 1) j (by omega) (by omega) h3 (fun t x ht hx => ?_) h5
        by_cases e : t = m
        · subst e; rw [em] at hx; cases hx; exact hc
        · exact cmpB_trans (hs t m x _ (by omega) hx em) hc
      · rw [if_neg hc]
        refine ih i m (by omega) (by omega) (by omega) h4 (fun t x ht hx => ?_)
        by_cases e : t = m
        · subst e; rw [em] at hx; cases hx; exact hc
        · exact fun h => hc (cmpB_trans (hs m t _ x (by omega) em hx) h)
    · rw [if_neg hlt]
      have : i = j := by omega
      subst this
      exact ⟨h4, h5⟩
theorem fdN_has {a : List Int} {l : List En} (hs : Srt l) : fdN a l (bsN a l 0 l.length) = (l.any fun x => decide (x.addr = a)) := by
  obtain ⟨h1, h2⟩ := bsN_spec (a := a) hs l.length 0 l.length (by omega) (by omega) (Nat.le_refl _) (fun t x h => by omega) (fun t x h hx => by
    have := (List.getElem?_eq_some_iff.1 hx).1
    omega)
  generalize bsN a l 0 l.length = r at *
  cases hh : l.any fun x => decide (x.addr = a)
  · unfold fdN
    cases hr : l[r]? with
    | none => rfl
    | some x =>
      have := List.any_eq_false.1 hh x (List.mem_of_getElem? hr)
      simp at this
      simp
      exact fun h => this (cmpB_zero.1 h)
  · obtain ⟨x, hx, he⟩ := List.any_eq_true.1 hh
    simp at he
    obtain ⟨t, ht⟩ := List.getElem?_of_mem hx
    have c0 : cmpB x.addr a = 0 := by rw [he]; exact cmpB_self a
    have htr : ¬ t < r := fun h => by have := h1 t x h ht; omega
    have htl := (List.getElem?_eq_some_iff.1 ht).1
    have e : t = r := by
      by_cases e : t = r
      · exact e
      · exfalso
        have hrl : r < l.length := by omega
        have er : l[r]? = some l[r] := List.getElem?_eq_getElem hrl
        have := hs r t _ x (by omega) er ht
        rw [he] at this
        exact h2 r _ (Nat.le_refl _) er this
    subst e
    simp [fdN, ht, c0]
end Go.Proofs.YtgkhojgmpojodaaGreatDoor
