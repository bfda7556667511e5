/- The turned edges, sorted, are what the reference tells. -/
import Derived.Test.YtopoaemlbnkhgaaX1
import Derived.Test.YtopoaemlbnkhgaaG17
import Derived.Sort.LotA
namespace Go.Proofs.Ytopoaemlbnkhgaa
open Go Go.Pm Go.Proofs
set_option linter.unusedVariables false
set_option linter.unusedSimpArgs false
theorem toV_eq (v : Int) : ∀ l : List Ed, toV v l = (l.filter fun e => decide (e.2 = v)).map swE
  | [] => rfl
  | e :: l => by
    simp only [toV, List.filter_cons]
    cases h : decide (e.2 = v)
    · simp [toV_eq v l]
    · have : e.2 = v := of_decide_eq_true h
      subst this
      simp [toV_eq e.2 l, swE]
theorem turnS_perm (l : List Ed) (h : ∀ e ∈ l, 0 ≤ e.2) : ∀ n : Nat, (turnS l n).Perm ((l.filter fun e : Ed => decide (e.2 < (n : Int))).map swE)
  | 0 => by
    have : (l.filter fun e : Ed => decide (e.2 < ((0 : Nat) : Int))) = [] := List.filter_eq_nil_iff.2 fun e he => by have := h e he; simp; omega
    rw [this]
    exact .nil
  | n + 1 => by
    rw [turnS, toV_eq]
    refine ((turnS_perm l h n).append_right _).trans ?_
    rw [← List.map_append]
    refine List.Perm.map _ ?_
    have h1 := List.filter_append_perm (fun e : Ed => decide (e.2 < n)) (l.filter fun e : Ed => decide (e.2 < ((n + 1 : Nat) : Int)))
    rw [List.filter_filter, List.filter_filter] at h1
    have e1 : (l.filter fun e : Ed => decide (e.2 < (n : Int)) && decide (e.2 < ((n + 1 : Nat) : Int))) = l.filter fun e : Ed => decide (e.2 < (n : Int)) := List.filter_congr fun e _ => by
      by_cases h1 : e.2 < n
      · have : e.2 < ((n + 1 : Nat) : Int) := by omega
        simp only [h1, this, decide_true, Bool.and_self]
      · simp [h1]
    have e2 : (l.filter fun e : Ed => !decide (e.2 < (n : Int)) && decide (e.2 < ((n + 1 : Nat) : Int))) = l.filter fun e : Ed => decide (e.2 = (n : Int)) := List.filter_congr fun e _ => by
      by_cases h1 : e.2 = n
      · have h2 : ¬ e.2 < n := by omega
        have h3 : e.2 < ((n + 1 : Nat) : Int) := by omega
        simp [h1]
        omega
      · by_cases h2 : e.2 < n
        · simp [h1, h2]
        · have h3 : ¬ e.2 < ((n + 1 : Nat) : Int) := by omega
          simp only [h1, h3, decide_false, Bool.and_false]
    rw [e1, e2] at h1
    exact h1
theorem turnS_lt {l : List Ed} : ∀ (n : Nat) (e : Ed), e ∈ turnS l n → e.1 < n
  | 0, e, h => by cases h
  | n + 1, e, h => by
    rw [turnS, List.mem_append, toV_eq, List.mem_map] at h
    rcases h with h | ⟨x, h1, rfl⟩
    · have := turnS_lt n e h; omega
    · have := (List.mem_filter.1 h1).2
      simp at this
      simp only [swE]
      omega
theorem turnS_pair {l : List Ed} (h : l.Pairwise (fun a b => edLess a b = true)) : ∀ n : Nat, (turnS l n).Pairwise (fun a b => edLess a b = true)
  | 0 => .nil
  | n + 1 => by
    rw [turnS, List.pairwise_append, toV_eq]
    refine ⟨turnS_pair h n, ?_, fun a ha b hb => ?_⟩
    · rw [List.pairwise_map]
      refine List.Pairwise.imp_of_mem (fun {a b} ha hb hab => ?_) (h.filter _)
      have h1 := (List.mem_filter.1 ha).2
      have h2 := (List.mem_filter.1 hb).2
      simp only [decide_eq_true_eq] at h1 h2
      simp [edLess] at hab
      simp [edLess, swE]
      grind
    · have h1 := turnS_lt n a ha
      rw [List.mem_map] at hb
      obtain ⟨x, hx, rfl⟩ := hb
      have h2 := (List.mem_filter.1 hx).2
      simp only [decide_eq_true_eq] at h2
      simp [edLess, swE]
      grind
theorem sort_turn {n : Nat} {l : List Ed} (h : gChk n none l = true) : sortE (turnE l) = turnS l n := by
  have hin := gChk_in h
  have hp : (turnS l n).Perm (turnE l) := by
    have := turnS_perm l (fun e he => by have := hin e he; simp [edIn] at this; omega) n
    rwa [List.filter_eq_self.2 fun e he => by have := hin e he; simp [edIn] at this; simp; omega] at this
  have hs := turnS_pair (gChk_pair h) n
  have hlen := hp.length_eq
  have := Sort.sorted_unique_holds swo_cmpE tot_cmpE (turnE l).toArray (turnS l n).toArray ⟨by simpa using hlen, fun i hi => ?_, ?_⟩ ?_
  · exact this.symm
  · have h1 : (turnE l).length ≤ i := by rcases hi with hi | hi; omega; simpa using hi
    rw [getElem!_neg _ _ (by simp; omega), getElem!_neg _ _ (by simp; omega)]
  · simp only [List.size_toArray, List.extract_toArray, List.extract_eq_take_drop, List.drop_zero, Nat.sub_zero]
    rw [List.take_length, ← hlen, List.take_length]
    exact hp
  · intro i j _ hij hj
    have hj' : j < (turnS l n).length := by simp at hj; omega
    rw [List.pairwise_iff_getElem] at hs
    have h1 := hs i j (by omega) hj' hij
    have e1 : (turnS l n).toArray[j]! = (turnS l n)[j] := by simp [hj']
    have e2 : (turnS l n).toArray[i]! = (turnS l n)[i]'(by omega) := by simp [show i < (turnS l n).length by omega]
    rw [e1, e2, lt_cmpE]
    simp [edLess] at h1
    simp
    omega
end Go.Proofs.Ytopoaemlbnkhgaa
