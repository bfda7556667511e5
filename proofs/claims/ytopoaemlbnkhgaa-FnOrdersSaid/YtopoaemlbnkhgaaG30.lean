/- A graph's order: it is full just if there is no ring; layers and places go up. -/
import Derived.Test.YtopoaemlbnkhgaaX2
import Derived.Test.YtopoaemlbnkhgaaG25
import Derived.Test.YtopoaemlbnkhgaaG10
import Derived.Test.YtopoaemlbnkhgaaG14
namespace Go.Proofs.Ytopoaemlbnkhgaa
open Go Go.Pm Go.Proofs
set_option linter.unusedVariables false
set_option linter.unusedSimpArgs false
/-! ### a rank, and no way from one to itself -/
def cntF (f : Nat → Bool) : Nat → Nat
  | 0 => 0
  | m + 1 => cntF f m + (bif f m then 1 else 0)
theorem cntF_le {f g : Nat → Bool} (h : ∀ u, f u = true → g u = true) : ∀ m, cntF f m ≤ cntF g m
  | 0 => Nat.le_refl _
  | m + 1 => by
    have := cntF_le h m
    have h1 := h m
    simp only [cntF]
    cases hf : f m <;> cases hg : g m <;> simp_all <;> omega
theorem cntF_lt {f g : Nat → Bool} (h : ∀ u, f u = true → g u = true) {k : Nat} (hf : f k = false) (hg : g k = true) : ∀ m, k < m → cntF f m < cntF g m
  | 0, hk => by omega
  | m + 1, hk => by
    simp only [cntF]
    by_cases e : k = m
    · subst e
      have := cntF_le h k
      simp [hf, hg]
      omega
    · have := cntF_lt h hf hg m (by omega)
      have h1 := h m
      cases hf : f m <;> cases hg : g m <;> simp_all <;> omega
theorem cntF_top (f : Nat → Bool) : ∀ m, cntF f m ≤ m
  | 0 => Nat.le_refl _
  | m + 1 => by have := cntF_top f m; simp only [cntF]; cases f m <;> simp <;> omega
/-- Where no way leads back there is a rank. -/
theorem rank_no {n : Nat} {l : List Ed} (he : ∀ e ∈ l, edIn n e = true) (hw : ∀ v : Nat, v < n → ¬ Way l v v) : Rank l := by
  have key : ∀ e ∈ l, cntF (fun u => hasI (waysL n l he [(u : Int)] []) e.1) n < cntF (fun u => hasI (waysL n l he [(u : Int)] []) e.2) n := fun e hm => by
    have hin := he e hm
    simp only [edIn, Bool.and_eq_true, decide_eq_true_eq] at hin
    obtain ⟨k, hk⟩ := Int.eq_ofNat_of_zero_le hin.1.1.1
    refine cntF_lt (k := k) (fun u hu => ?_) ?_ ?_ n (by omega)
    · rw [ways_way] at hu ⊢
      exact .more hu hm
    · cases hh : hasI (waysL n l he [(k : Int)] []) e.1 with
      | false => rfl
      | true =>
        rw [ways_way, hk] at hh
        exact absurd hh (hw k (by omega))
    · rw [ways_way]
      exact .one hm hk
  refine ⟨fun v => cntF (fun u => hasI (waysL n l he [(u : Int)] []) v) n * n + v.toNat, fun e hm => ?_, fun e hm f hf => ?_⟩
  · have h1 := key e hm
    have hin := he e hm
    simp only [edIn, Bool.and_eq_true, decide_eq_true_eq] at hin
    have h2 := Nat.mul_le_mul_right n (Nat.succ_le_of_lt h1)
    rw [Nat.succ_mul] at h2
    show _ + _ < _ + _
    omega
  · have inj : ∀ (a b c d : Nat), c < n → d < n → a * n + c = b * n + d → c = d := fun a b c d hc hd h => by
      have h1 := congrArg (· % n) h
      simp only [Nat.mul_comm _ n, Nat.mul_add_mod, Nat.mod_eq_of_lt hc, Nat.mod_eq_of_lt hd] at h1
      exact h1
    have h1 := he e hm
    have h2 := he f hf
    simp only [edIn, Bool.and_eq_true, decide_eq_true_eq] at h1 h2
    constructor
    · intro h
      have := inj _ _ _ _ (by omega) (by omega) h
      omega
    · intro h
      have := inj _ _ _ _ (by omega) (by omega) h
      omega
/-- The order is full just if no way leads back. -/
theorem full_iff {n : Nat} {l : List Ed} (he : ∀ e ∈ l, edIn n e = true) : n ≤ (ordL n l []).length ↔ ∀ v : Nat, v < n → ¬ Way l v v := by
  constructor
  · intro h v _ w
    obtain ⟨rk, hrk, _⟩ := rank_of he h
    exact Nat.lt_irrefl _ (Way.rank hrk w)
  · exact fun h => full_of he (rank_no he h)
theorem rings_nil {f : Int → Bool} : ∀ n, (ringsL f n = [] ↔ ∀ v : Nat, v < n → f v = false)
  | 0 => by simp [ringsL]
  | n + 1 => by
    rw [ringsL, List.append_eq_nil_iff, rings_nil n]
    constructor
    · rintro ⟨h1, h2⟩ v hv
      by_cases e : v = n
      · subst e
        cases h : f (v : Int) <;> simp_all
      · exact h1 v (by omega)
    · intro h
      exact ⟨fun v hv => h v (by omega), by simp [h n (by omega)]⟩
theorem full_ring {n : Nat} {l : List Ed} (he : ∀ e ∈ l, edIn n e = true) : n ≤ (ordL n l []).length ↔ (ringsL (fun v => hasI (waysL n l he [v] []) v) n).length = 0 := by
  rw [full_iff he, List.length_eq_zero_iff, rings_nil]
  constructor
  · intro h v hv
    cases hh : hasI (waysL n l he [(v : Int)] []) v with
    | false => rfl
    | true => exact absurd ((ways_way he v v).1 hh) (h v hv)
  · intro h v hv w
    have h1 := h v hv
    rw [(ways_way he v v).2 w] at h1
    cases h1
/-! ### turned -/
theorem Way.turn {l l' : List Ed} (h : ∀ e ∈ l, swE e ∈ l') {a b : Int} (w : Way l a b) : Way l' b a := by
  induction w with
  | @one e he h1 => rw [← h1]; exact .one (e := swE e) (h _ he) rfl
  | @more e w he ih => exact (Way.one (e := swE e) (h _ he) rfl).trans ih
theorem turnS_mem {n : Nat} {l : List Ed} (h : gChk n none l = true) (e : Ed) : e ∈ turnS l n ↔ swE e ∈ l := by
  rw [← sort_turn h]
  unfold sortE
  rw [List.mem_mergeSort]
  unfold turnE
  rw [List.mem_map]
  constructor
  · rintro ⟨x, hx, rfl⟩
    exact hx
  · intro hx
    exact ⟨swE e, hx, rfl⟩
theorem turnS_in {n : Nat} {l : List Ed} (h : gChk n none l = true) : ∀ e ∈ turnS l n, edIn n e = true := fun e he => by
  have h1 := gChk_in h _ ((turnS_mem h e).1 he)
  have h2 : ((decide (0 ≤ e.2) && decide (e.2 < (n : Int))) && decide (0 ≤ e.1) && decide (e.1 < (n : Int))) = true := h1
  simp only [Bool.and_eq_true, decide_eq_true_eq] at h2
  obtain ⟨⟨⟨a1, a2⟩, a3⟩, a4⟩ := h2
  simp [edIn, a1, a2, a3, a4]
theorem turnS_chk {n : Nat} {l : List Ed} (h : gChk n none l = true) : gChk n none (turnS l n) = true :=
  gChk_of (turnS_in h) (turnS_pair (gChk_pair h) n) (fun p hp => by cases hp)
theorem turnS_ln {n : Nat} {l : List Ed} (h : gChk n none l = true) : (turnS l n).length = l.length := by
  rw [← sort_turn h]; simp [sortE, turnE]
theorem turnS_full {n : Nat} {l : List Ed} (h : gChk n none l = true) : n ≤ (ordL n (turnS l n) []).length ↔ n ≤ (ordL n l []).length := by
  rw [full_iff (turnS_in h), full_iff (gChk_in h)]
  have t1 : ∀ e ∈ l, swE e ∈ turnS l n := fun e he => (turnS_mem h _).2 he
  have t2 : ∀ e ∈ turnS l n, swE e ∈ l := fun e he => (turnS_mem h _).1 he
  exact ⟨fun hw v hv w => hw v hv (w.turn t1), fun hw v hv w => hw v hv (w.turn t2)⟩
/-! ### the order's elements -/
theorem ordL_nd {n : Nat} {l : List Ed} (out : List Int) (hd : out.Nodup) (hi : ∀ x ∈ out, 0 ≤ x ∧ x < n) : (ordL n l out).Nodup ∧ ∀ x ∈ ordL n l out, 0 ≤ x ∧ x < n := by
  generalize hm : left out n = m
  induction m using Nat.strongRecOn generalizing out with
  | ind m ih =>
    rcases nextU_eq (out := out) (l := l) (n := n) n 0 (by omega) with ⟨h5, h6⟩ | ⟨h5, h6, h7, h8⟩
    · rw [ordL_none (by omega)]
      exact ⟨hd, hi⟩
    · have hl := left_lt (free_not h7) n h6
      rw [ordL_some rfl h6]
      refine ih _ (by omega) _ ?_ ?_ rfl
      · rw [List.nodup_append]
        refine ⟨hd, by simp, fun a ha b hb => ?_⟩
        simp only [List.mem_singleton] at hb
        subst hb
        intro e
        subst e
        have h9 := free_not h7
        rw [(hasI_iff _ _).2 ha] at h9
        cases h9
      · intro x hx
        rcases List.mem_append.1 hx with hx | hx
        · exact hi x hx
        · simp only [List.mem_singleton] at hx
          omega
theorem ordL_idx {n : Nat} {l : List Ed} (he : ∀ e ∈ l, edIn n e = true) (ho : n ≤ (ordL n l []).length) : (∀ v : Int, 0 ≤ v → v < n → v ∈ ordL n l []) ∧ ∀ e ∈ l, (ordL n l []).idxOf e.1 < (ordL n l []).idxOf e.2 := by
  obtain ⟨h1, h2, _⟩ := ordL_inv (n := n) (l := l) [] (by simp [left_nil]) (fun a b v h => by simp at h)
  have all : ∀ v : Int, 0 ≤ v → v < n → v ∈ ordL n l [] := fun v hv hn => by
    obtain ⟨k, hk⟩ := Int.eq_ofNat_of_zero_le hv
    rw [← hasI_iff]
    cases hh : hasI (ordL n l []) v with
    | true => rfl
    | false =>
      rw [hk] at hh
      have := left_pos hh n (by omega)
      omega
  refine ⟨all, fun e hm => ?_⟩
  have hin := he e hm
  simp only [edIn, Bool.and_eq_true, decide_eq_true_eq] at hin
  obtain ⟨a, b, hs, hna⟩ := List.eq_append_cons_of_mem (all _ hin.1.2 hin.2)
  have ha := h2 a b e.2 hs e hm rfl
  rw [hs, List.idxOf_append, if_pos ha, List.idxOf_append, if_neg hna, List.idxOf_cons_self]
  have := List.idxOf_lt_length_of_mem ha
  omega
theorem idx_at {p : List Int} (hd : p.Nodup) {i : Nat} (h : i < p.length) : p.idxOf p[i] = i := by
  have hm := List.idxOf_lt_length_of_mem (List.getElem_mem h)
  have e := List.getElem_idxOf hm
  unfold List.Nodup at hd
  rw [List.pairwise_iff_getElem] at hd
  rcases Nat.lt_trichotomy (p.idxOf p[i]) i with h1 | h1 | h1
  · exact absurd e (hd _ _ hm h h1)
  · exact h1
  · exact absurd e.symm (hd _ _ h hm h1)
/-! ### layers -/
theorem relax_get {a : Int} {far : List Int} {e : Ed} (h2 : e.2.toNat < far.length) (hA : -4611686018427387904 ≤ far.getD a.toNat 0 ∧ far.getD a.toNat 0 ≤ 4611686018427387904) (x : Nat) : (relax a far e).getD x 0 = if e.1 = a ∧ e.2.toNat = x then max (far.getD x 0) (far.getD a.toNat 0 + 1) else far.getD x 0 := by
  have hw : IntKind.i64.wrap (far.getD a.toNat 0 + 1) = far.getD a.toNat 0 + 1 := wrap_id' (by omega)
  unfold relax
  by_cases h : e.1 = a
  · rw [h, hw]
    generalize hA' : far.getD a.toNat 0 = A at *
    by_cases hc : far.getD e.2.toNat 0 < A + 1
    · have hb : (decide (a = a) && decide (far.getD e.2.toNat 0 < A + 1)) = true := by rw [decide_eq_true hc]; simp
      rw [hb, cond_true]
      by_cases hx : e.2.toNat = x
      · subst hx
        rw [if_pos ⟨rfl, rfl⟩, Int.max_eq_right (by omega), List.getD_eq_getElem?_getD, List.getElem?_set_self h2]
        rfl
      · rw [if_neg fun h' => hx h'.2, List.getD_eq_getElem?_getD, List.getElem?_set_ne hx, ← List.getD_eq_getElem?_getD]
    · have hb : (decide (a = a) && decide (far.getD e.2.toNat 0 < A + 1)) = false := by rw [decide_eq_false hc]; simp
      rw [hb, cond_false]
      by_cases hx : e.2.toNat = x
      · subst hx
        rw [if_pos ⟨rfl, rfl⟩, Int.max_eq_left (by omega)]
      · rw [if_neg fun h' => hx h'.2]
  · have hb : (decide (e.1 = a) && decide (far.getD e.2.toNat 0 < IntKind.i64.wrap (far.getD e.1.toNat 0 + 1))) = false := by rw [decide_eq_false h]; rfl
    rw [hb, cond_false, if_neg fun h' => h h'.1]
theorem relaxE_spec {n : Nat} {a : Int} {A : Int} (hA : -4611686018427387904 ≤ A ∧ A ≤ 4611686018427387904) : ∀ (l : List Ed) (far : List Int), far.length = n → far.getD a.toNat 0 = A → (∀ e ∈ l, edIn n e = true) → (∀ e ∈ l, e.1 = a → e.2.toNat ≠ a.toNat) →
    (∀ x : Nat, far.getD x 0 ≤ (relaxE a l far).getD x 0 ∧ (relaxE a l far).getD x 0 ≤ max (far.getD x 0) (A + 1)) ∧ (∀ x : Nat, (∀ e ∈ l, e.1 = a → e.2.toNat ≠ x) → (relaxE a l far).getD x 0 = far.getD x 0) ∧ ∀ e ∈ l, e.1 = a → A < (relaxE a l far).getD e.2.toNat 0
  | [], far, _, _, _, _ => ⟨fun x => ⟨Int.le_refl _, Int.le_max_left _ _⟩, fun _ _ => rfl, fun e he => by cases he⟩
  | e :: l, far, hf, hv, hi, hs => by
    have hin := hi e (List.mem_cons_self ..)
    simp only [edIn, Bool.and_eq_true, decide_eq_true_eq] at hin
    have hg := relax_get (a := a) (far := far) (e := e) (by omega) (by rw [hv]; exact hA)
    rw [hv] at hg
    have hga : (relax a far e).getD a.toNat 0 = A := by
      rw [hg, if_neg (fun ⟨h1, h2⟩ => hs e (List.mem_cons_self ..) h1 h2), hv]
    obtain ⟨h1, h2, h3⟩ := relaxE_spec hA l (relax a far e) (by simpa using hf) hga (fun x hx => hi x (List.mem_cons_of_mem _ hx)) (fun x hx => hs x (List.mem_cons_of_mem _ hx))
    refine ⟨fun x => ?_, fun x hx => ?_, fun f hfm ha => ?_⟩
    · have h4 := h1 x
      rw [hg x] at h4
      show _ ≤ (relaxE a l (relax a far e)).getD x 0 ∧ (relaxE a l (relax a far e)).getD x 0 ≤ _
      split at h4 <;> omega
    · show (relaxE a l (relax a far e)).getD x 0 = _
      rw [h2 x fun f hf => hx f (List.mem_cons_of_mem _ hf), hg, if_neg (fun ⟨h5, h6⟩ => hx e (List.mem_cons_self ..) h5 h6)]
    · show A < (relaxE a l (relax a far e)).getD f.2.toNat 0
      rcases List.mem_cons.1 hfm with rfl | hfm
      · have h4 := (h1 f.2.toNat).1
        rw [hg, if_pos ⟨ha, rfl⟩] at h4
        omega
      · exact h3 f hfm ha
theorem layL_spec {n : Nat} {l : List Ed} {p : List Int} (he : ∀ e ∈ l, edIn n e = true) (hd : p.Nodup) (hp : ∀ x ∈ p, 0 ≤ x ∧ x < n) (hx : ∀ e ∈ l, p.idxOf e.1 < p.idxOf e.2) (hlen : p.length ≤ 1000) : ∀ (k i : Nat) (far : List Int), i + k = p.length → far.length = n → (∀ x : Nat, 0 ≤ far.getD x 0 ∧ far.getD x 0 ≤ i) → (∀ e ∈ l, p.idxOf e.1 < i → far.getD e.1.toNat 0 < far.getD e.2.toNat 0) →
    ∀ e ∈ l, p.idxOf e.1 < p.length → (layL l (p.drop i) far).getD e.1.toNat 0 < (layL l (p.drop i) far).getD e.2.toNat 0
  | 0, i, far, hi, hf, hb, hu => by
    rw [drop_end (by omega)]
    intro e hm h
    exact hu e hm (by omega)
  | k + 1, i, far, hi, hf, hb, hu => by
    have hlt : i < p.length := by omega
    rw [drop_at hlt]
    have hia := idx_at hd hlt
    have hpi := hp _ (List.getElem_mem hlt)
    have inj : ∀ e ∈ l, ∀ f ∈ l, e.2.toNat = f.1.toNat → p.idxOf e.2 = p.idxOf f.1 := fun e hm f hf h => by
      have h1 := he e hm
      have h2 := he f hf
      simp only [edIn, Bool.and_eq_true, decide_eq_true_eq] at h1 h2
      have : e.2 = f.1 := by omega
      rw [this]
    have hgo : ∀ e ∈ l, e.1 = p[i] → i < p.idxOf e.2 := fun e hm h => by have := hx e hm; rw [h, hia] at this; exact this
    have hba := hb p[i].toNat
    obtain ⟨h1, h2, h3⟩ := relaxE_spec (n := n) (a := p[i]) (A := far.getD p[i].toNat 0) (by omega) l far hf rfl he (fun e hm h h' => by
      have h4 := hgo e hm h
      have h5 := he e hm
      simp only [edIn, Bool.and_eq_true, decide_eq_true_eq] at h5
      have : e.2 = p[i] := by omega
      rw [this, hia] at h4
      omega)
    refine layL_spec he hd hp hx hlen k (i + 1) (relaxE p[i] l far) (by omega) (by simpa using hf) (fun x => ?_) (fun e hm hlt' => ?_)
    · have h4 := h1 x
      have h5 := hb x
      omega
    · have keep : ∀ f ∈ l, p.idxOf f.1 ≤ i → (relaxE p[i] l far).getD f.1.toNat 0 = far.getD f.1.toNat 0 := fun f hfm hf' => h2 _ fun e' hm' ha' h' => by
        have h4 := hgo e' hm' ha'
        rw [inj e' hm' f hfm h'] at h4
        omega
      rw [keep e hm (by omega)]
      by_cases hc : p.idxOf e.1 = i
      · have hb1 := he e hm
        simp only [edIn, Bool.and_eq_true, decide_eq_true_eq] at hb1
        have hmem : p.idxOf e.1 < p.length := by omega
        have e1 := List.getElem_idxOf hmem
        have e2 : p[i] = e.1 := by simp only [← hc]; exact e1
        have h4 := h3 e hm e2.symm
        rw [e2] at h4 ⊢
        exact h4
      · have h4 := hu e hm (by omega)
        have h5 := (h1 e.2.toNat).1
        omega
theorem layer_up {n : Nat} {l : List Ed} (hg : gOk n l = true) (ho : n ≤ (ordL n l []).length) : ∀ e ∈ l, layer n e.1 l < layer n e.2 l := by
  obtain ⟨m, hm, hn20, hl400, hch⟩ := gOk_n hg
  have hmn : m = n := by omega
  subst hmn
  have he := gChk_in hch
  obtain ⟨h1, h2⟩ := ordL_idx he ho
  obtain ⟨h3, h4⟩ := ordL_nd (n := m) (l := l) [] .nil (fun x hx => by cases hx)
  have h5 := ordL_len (n := m) (l := l) [] (by simp [left_nil])
  intro e hem
  have hin := he e hem
  simp only [edIn, Bool.and_eq_true, decide_eq_true_eq] at hin
  have key := layL_spec he h3 h4 h2 (by omega) (ordL m l []).length 0 (List.replicate m 0) (by simp) (by simp) (fun x => by
    have : (List.replicate m (0 : Int)).getD x 0 = 0 := by
      rw [List.getD_eq_getElem?_getD, List.getElem?_replicate]
      split <;> rfl
    rw [this]; omega) (fun e hm h => by omega) e hem (List.idxOf_lt_length_of_mem (h1 _ hin.1.1.1 hin.1.1.2))
  rw [List.drop_zero] at key
  have c1 : (gOk m l && decide (0 ≤ e.1) && decide (e.1 < (m : Int)) && decide ((m : Int) ≤ (ordL (m : Int).toNat l []).length)) = true := by
    rw [hg]; simp [hin]; exact ho
  have c2 : (gOk m l && decide (0 ≤ e.2) && decide (e.2 < (m : Int)) && decide ((m : Int) ≤ (ordL (m : Int).toNat l []).length)) = true := by
    rw [hg]; simp [hin]; exact ho
  unfold layer
  rw [if_pos c1, if_pos c2]
  simpa using key
/-! ### places -/
/-- The places told so far. -/
def plR (n : Nat) (p : List Int) (i : Nat) : List Int := (List.range n).map fun (v : Nat) => if p.idxOf (v : Int) < i then ((p.idxOf (v : Int) + 1 : Nat) : Int) else 0
@[simp] theorem plR_len (n : Nat) (p : List Int) (i : Nat) : (plR n p i).length = n := by simp [plR]
@[simp] theorem plR_get (n : Nat) (p : List Int) (i v : Nat) (h : v < (plR n p i).length) : (plR n p i)[v] = if p.idxOf (v : Int) < i then ((p.idxOf (v : Int) + 1 : Nat) : Int) else 0 := by simp [plR]
theorem plR_nil (n : Nat) (p : List Int) : plR n p 0 = List.replicate n 0 := by
  apply List.ext_getElem
  · simp
  · intro j h1 h2; simp
theorem plR_set {n : Nat} {p : List Int} (hd : p.Nodup) {i : Nat} (h : i < p.length) (h0 : 0 ≤ p[i]) : (plR n p i).set p[i].toNat ((i : Int) + 1) = plR n p (i + 1) := by
  have hia := idx_at hd h
  apply List.ext_getElem
  · simp
  · intro j h1 h2
    simp only [List.length_set, plR_len] at h1
    rw [List.getElem_set, plR_get, plR_get]
    by_cases e : p[i].toNat = j
    · have e' : (j : Int) = p[i] := by omega
      rw [if_pos e, e', hia, if_pos (by omega)]
      simp
    · rw [if_neg e]
      have hne : p.idxOf (j : Int) ≠ i := fun hc => by
        have e1 := List.getElem_idxOf (xs := p) (x := (j : Int)) (by omega)
        simp only [hc] at e1
        omega
      by_cases hc : p.idxOf (j : Int) < i
      · rw [if_pos hc, if_pos (by omega)]
      · rw [if_neg hc, if_neg (by omega)]
end Go.Proofs.Ytopoaemlbnkhgaa
