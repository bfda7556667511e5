/- Plain law: an order of a graph is one of each part of it. -/
import Derived.Test.YtmfnklfoocebhaaGreatDoorYG8
namespace Go.Proofs.YtmfnklfoocebhaaGreatDoor
open Go Go.Pm Go.Proofs
set_option linter.unusedVariables false
set_option linter.unusedSimpArgs false
theorem hasI_iff (v : Int) : ∀ l : List Int, hasI l v = true ↔ v ∈ l
  | [] => by simp [hasI]
  | x :: l => by
    simp only [hasI, Bool.or_eq_true, decide_eq_true_eq, List.mem_cons, hasI_iff v l]
    constructor
    · rintro (rfl | h)
      · exact .inl rfl
      · exact .inr h
    · rintro (rfl | h)
      · exact .inl rfl
      · exact .inr h
/-- Each stands behind all from which an edge comes. -/
def Topo (l : List Ed) (out : List Int) : Prop := ∀ (a b : List Int) (v : Int), out = a ++ v :: b → ∀ e ∈ l, e.2 = v → e.1 ∈ a
theorem blocked_no {out : List Int} {v : Int} : ∀ {l : List Ed}, blocked out v l = false → ∀ e ∈ l, e.2 = v → hasI out e.1 = true
  | [], _, e, h, _ => by cases h
  | x :: l, hb, e, he, hv => by
    simp only [blocked, Bool.or_eq_false_iff] at hb
    rcases List.mem_cons.1 he with rfl | he
    · have := hb.1
      simp [hv] at this
      exact this
    · exact blocked_no hb.2 e he hv
theorem topo_snoc {l : List Ed} {out : List Int} {k : Int} (ht : Topo l out) (hf : freeV out l k = true) : Topo l (out ++ [k]) := by
  intro a b v hs e he hv
  have hb : blocked out k l = false := by
    unfold freeV at hf
    cases h : blocked out k l <;> simp_all
  rcases List.eq_nil_or_concat b with rfl | ⟨b', x, rfl⟩
  · have := List.append_inj' hs rfl
    obtain ⟨rfl, h2⟩ := this
    simp at h2
    subst h2
    exact (hasI_iff _ _).1 (blocked_no hb e he hv)
  · have hs' : out ++ [k] = (a ++ v :: b') ++ [x] := by rw [hs]; simp
    have := List.append_inj' hs' rfl
    exact ht a b' v this.1 e he hv
theorem ordL_inv {n : Nat} {l : List Ed} (out : List Int) (h : out.length + left out n = n) (ht : Topo l out) : (ordL n l out).length + left (ordL n l out) n = n ∧ Topo l (ordL n l out) ∧ ∀ v : Nat, v < n → freeV (ordL n l out) l v = false := by
  generalize hm : left out n = m
  induction m using Nat.strongRecOn generalizing out with
  | ind m ih =>
    rcases nextU_eq (out := out) (l := l) (n := n) n 0 (by omega) with ⟨h5, h6⟩ | ⟨h5, h6, h7, h8⟩
    · rw [ordL_none (by omega)]
      exact ⟨h, ht, fun v hv => h6 v (Nat.zero_le _) hv⟩
    · have hl := left_lt (free_not h7) n h6
      rw [ordL_some rfl h6]
      exact ih _ (by omega) _ (by simp; omega) (topo_snoc ht h7) rfl
/-- There is a rank: edges go up. -/
def Rank (l : List Ed) : Prop := ∃ rk : Int → Nat, (∀ e ∈ l, rk e.1 < rk e.2) ∧ ∀ e ∈ l, ∀ f ∈ l, (rk e.1 = rk f.1 → e.1 = f.1) ∧ (rk e.2 = rk f.2 → e.2 = f.2)
theorem rank_of {n : Nat} {l : List Ed} (he : ∀ e ∈ l, edIn n e = true) (ho : n ≤ (ordL n l []).length) : Rank l := by
  obtain ⟨h1, h2, _⟩ := ordL_inv (n := n) (l := l) [] (by simp [left_nil]) (fun a b v h => by simp at h)
  have all : ∀ v : Int, 0 ≤ v → v < n → v ∈ ordL n l [] := fun v hv hn => by
    obtain ⟨k, hk⟩ := Int.eq_ofNat_of_zero_le hv
    rw [← hasI_iff]
    cases hh : hasI (ordL n l []) v with
    | true => rfl
    | false =>
      rw [hk] at hh
      have := left_pos hh n (by omega)
      omega
  have inj : ∀ v w : Int, v ∈ ordL n l [] → w ∈ ordL n l [] → (ordL n l []).idxOf v = (ordL n l []).idxOf w → v = w := fun v w hv hw h => by
    have h1 := List.idxOf_lt_length_of_mem hv
    have h2 := List.idxOf_lt_length_of_mem hw
    have e1 := List.getElem_idxOf h1
    have e2 := List.getElem_idxOf h2
    rw [← e1, ← e2]
    simp only [h]
  have ends : ∀ e ∈ l, e.1 ∈ ordL n l [] ∧ e.2 ∈ ordL n l [] := fun e hm => by
    have hin := he e hm
    simp only [edIn, Bool.and_eq_true, decide_eq_true_eq] at hin
    exact ⟨all _ hin.1.1.1 hin.1.1.2, all _ hin.1.2 hin.2⟩
  refine ⟨fun v => (ordL n l []).idxOf v, fun e hm => ?_, fun e he f hf => ⟨inj _ _ (ends e he).1 (ends f hf).1, inj _ _ (ends e he).2 (ends f hf).2⟩⟩
  obtain ⟨a, b, hs, hna⟩ := List.eq_append_cons_of_mem (ends e hm).2
  have ha := h2 a b e.2 hs e hm rfl
  show (ordL n l []).idxOf e.1 < (ordL n l []).idxOf e.2
  rw [hs, List.idxOf_append, if_pos ha, List.idxOf_append, if_neg hna, List.idxOf_cons_self]
  have := List.idxOf_lt_length_of_mem ha
  omega
theorem blocked_yes {out : List Int} {v : Int} : ∀ {l : List Ed}, blocked out v l = true → ∃ e ∈ l, e.2 = v ∧ hasI out e.1 = false
  | [], h => by cases h
  | x :: l, h => by
    simp only [blocked, Bool.or_eq_true, Bool.and_eq_true, decide_eq_true_eq, Bool.not_eq_true'] at h
    rcases h with ⟨h1, h2⟩ | h
    · exact ⟨x, List.mem_cons_self .., h1, h2⟩
    · obtain ⟨e, he, h1, h2⟩ := blocked_yes h
      exact ⟨e, List.mem_cons_of_mem _ he, h1, h2⟩
theorem full_of {n : Nat} {l : List Ed} (he : ∀ e ∈ l, edIn n e = true) (hr : Rank l) : n ≤ (ordL n l []).length := by
  obtain ⟨h1, _, h3⟩ := ordL_inv (n := n) (l := l) [] (by simp [left_nil]) (fun a b v h => by simp at h)
  obtain ⟨rk, hrk, _⟩ := hr
  generalize ordL n l [] = R at *
  have all : ∀ (m v : Nat), rk v = m → v < n → hasI R v = true := by
    intro m
    induction m using Nat.strongRecOn with
    | ind m ih =>
      intro v hv hn
      cases hh : hasI R v with
      | true => rfl
      | false =>
        have hf := h3 v hn
        have hb : blocked R v l = true := by
          unfold freeV at hf
          rw [hh] at hf
          simpa using hf
        obtain ⟨e, hm, e1, e2⟩ := blocked_yes hb
        have hin := he e hm
        simp only [edIn, Bool.and_eq_true, decide_eq_true_eq] at hin
        obtain ⟨k, hk⟩ := Int.eq_ofNat_of_zero_le hin.1.1.1
        have := hrk e hm
        rw [hk, e1] at this
        rw [hk, ih (rk k) (by omega) k rfl (by omega)] at e2
        cases e2
  have left0 : ∀ m, (∀ v : Nat, v < m → hasI R v = true) → left R m = 0 := by
    intro m
    induction m with
    | zero => intro _; rfl
    | succ m ih => intro h; simp [left, ih fun v hv => h v (by omega), h m (by omega)]
  rw [left0 n fun v hv => all _ v rfl hv] at h1
  omega
/-! ### ways -/
theorem keepE_mem {p : List Int} : ∀ {l : List Ed} {e : Ed}, e ∈ keepE p l → e ∈ l ∧ hasI p e.1 = true ∧ hasI p e.2 = true
  | [], e, h => by cases h
  | x :: l, e, h => by
    unfold keepE at h
    cases hc : (hasI p x.1 && hasI p x.2) with
    | false =>
      rw [hc] at h
      have := keepE_mem h
      exact ⟨List.mem_cons_of_mem _ this.1, this.2⟩
    | true =>
      rw [hc] at h
      simp only [cond_true] at h
      rcases List.mem_cons.1 h with rfl | h
      · simp only [Bool.and_eq_true] at hc
        exact ⟨List.mem_cons_self .., hc⟩
      · have := keepE_mem h
        exact ⟨List.mem_cons_of_mem _ this.1, this.2⟩
theorem keepE_self {p : List Int} : ∀ {l : List Ed}, (∀ e ∈ l, hasI p e.1 = true ∧ hasI p e.2 = true) → keepE p l = l
  | [], _ => rfl
  | x :: l, h => by
    have hx := h x (List.mem_cons_self ..)
    unfold keepE
    rw [hx.1, hx.2]
    simp only [Bool.and_self, cond_true]
    rw [keepE_self fun e he => h e (List.mem_cons_of_mem _ he)]
theorem keepE_idem (p : List Int) (l : List Ed) : keepE p (keepE p l) = keepE p l := keepE_self fun _ h => (keepE_mem h).2
theorem keepE_len (p : List Int) : ∀ l : List Ed, (keepE p l).length ≤ l.length
  | [] => Nat.le_refl _
  | x :: l => by
    have := keepE_len p l
    unfold keepE
    cases (hasI p x.1 && hasI p x.2)
    · simp; omega
    · simp; omega
theorem edLess_trans {a b c : Ed} (h : edLess a b = true) (h' : edLess b c = true) : edLess a c = true := by
  simp only [edLess] at *
  grind
theorem keepE_chk {n : Int} {p : List Int} : ∀ {l : List Ed} {o o' : Option Ed}, gChk n o l = true → (∀ x, o' = some x → ∃ y, o = some y ∧ (y = x ∨ edLess x y = true)) → gChk n o' (keepE p l) = true
  | [], o, o', _, _ => by cases o' <;> rfl
  | x :: l, o, o', h, ho => by
    unfold gChk at h
    unfold keepE
    have hx : edIn n x = true ∧ (∀ y, o = some y → edLess y x = true) ∧ gChk n (some x) l = true := by
      cases o with
      | none => simp at h; exact ⟨h.1, fun y hy => (by cases hy), h.2⟩
      | some y => simp at h; exact ⟨h.1.1, fun z hz => (by cases hz; exact h.1.2), h.2⟩
    obtain ⟨h1, h2, h3⟩ := hx
    have hless : ∀ z, o' = some z → edLess z x = true := fun z hz => by
      obtain ⟨y, hy, hyz⟩ := ho z hz
      rcases hyz with rfl | hyz
      · exact h2 _ hy
      · exact edLess_trans hyz (h2 _ hy)
    cases hc : (hasI p x.1 && hasI p x.2) with
    | false =>
      simp only [cond_false]
      exact keepE_chk h3 fun z hz => ⟨x, rfl, .inr (hless z hz)⟩
    | true =>
      simp only [cond_true]
      unfold gChk
      have := keepE_chk (p := p) (o' := some x) h3 fun z hz => ⟨x, rfl, .inl (by cases hz; rfl)⟩
      cases o' with
      | none => simp [h1, this]
      | some z => simp [h1, this, hless z rfl]
theorem keepE_ok {n : Int} {l : List Ed} (p : List Int) (h : gOk n l = true) : gOk n (keepE p l) = true := by
  have hl := keepE_len p l
  simp only [gOk, Bool.and_eq_true, decide_eq_true_eq] at h ⊢
  exact ⟨⟨⟨h.1.1.1, h.1.1.2⟩, by omega⟩, keepE_chk h.2 fun x hx => by cases hx⟩
theorem keepE_full {n : Nat} {l : List Ed} (p : List Int) (h : gOk n l = true) (ho : n ≤ (ordL n l []).length) : n ≤ (ordL n (keepE p l) []).length := by
  obtain ⟨m, e, _, _, hch⟩ := gOk_n h
  have e : n = m := by exact_mod_cast e
  subst e
  have he : ∀ e ∈ l, edIn n e = true := gChk_in hch
  obtain ⟨rk, h1, h2⟩ := rank_of he ho
  exact full_of (fun e hm => he e (keepE_mem hm).1) ⟨rk, fun e hm => h1 e (keepE_mem hm).1, fun e hm f hf => h2 e (keepE_mem hm).1 f (keepE_mem hf).1⟩
end Go.Proofs.YtmfnklfoocebhaaGreatDoor
