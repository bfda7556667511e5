/- Values that are ok, by the reference. -/
import Derived.Test.YtgbfmdihmnpcdaaGreatDoorV6
namespace Go.Proofs.YtgbfmdihmnpcdaaGreatDoor
open Go Go.Pm Go.Proofs
set_option linter.unusedVariables false
set_option linter.unusedSimpArgs false
set_option maxRecDepth 100000
set_option maxHeartbeats 4000000
def keyNo (q : Option (List Int)) : List (List Int) → Bool
 | [] => true
 | k :: _ => !nameB k || (match q with
  | some p => !decide (cmpB p k < 0)
  | none => false)
mutual
def okV : Val → Int → Int → Int
 | .mk kind n s k l, deep, left => if left - 1 < 0 ∨ 5 < deep then -1 else
  if (kind ≠ 3 ∧ s ≠ []) ∨ (kind ≠ 5 ∧ k ≠ []) ∨ (kind ≠ 1 ∧ kind ≠ 2 ∧ n ≠ 0) ∨ (kind ≠ 4 ∧ kind ≠ 5 ∧ l ≠ []) then -1 else
  if kind = 0 ∨ kind = 6 then left - 1 else
  if kind = 1 then (if inI n 0 1 then left - 1 else -1) else
  if kind = 2 then (if inI n (-1000000000000) 1000000000000 then left - 1 else -1) else
  if kind = 3 then (if textB s then left - 1 else -1) else
  if kind = 4 then okL false none k l (deep + 1) (left - 1) else
  if kind = 5 then (if k.length ≠ l.length then -1 else okL true none k l (deep + 1) (left - 1)) else -1
def okL : Bool → Option (List Int) → List (List Int) → List Val → Int → Int → Int
 | _, _, _, [], _, left => left
 | m, q, k, v :: l, deep, left => if (m && keyNo q k) = true then -1 else if okV v deep left < 0 then -1 else okL m k.head? k.tail l deep (okV v deep left)
end
theorem okV_eq (v : Val) (deep left : Int) : okV v deep left = if left - 1 < 0 ∨ 5 < deep then -1 else
    if (v.kind ≠ 3 ∧ v.s ≠ []) ∨ (v.kind ≠ 5 ∧ v.k ≠ []) ∨ (v.kind ≠ 1 ∧ v.kind ≠ 2 ∧ v.n ≠ 0) ∨ (v.kind ≠ 4 ∧ v.kind ≠ 5 ∧ v.l ≠ []) then -1 else
    if v.kind = 0 ∨ v.kind = 6 then left - 1 else
    if v.kind = 1 then (if inI v.n 0 1 then left - 1 else -1) else
    if v.kind = 2 then (if inI v.n (-1000000000000) 1000000000000 then left - 1 else -1) else
    if v.kind = 3 then (if textB v.s then left - 1 else -1) else
    if v.kind = 4 then okL false none v.k v.l (deep + 1) (left - 1) else
    if v.kind = 5 then (if v.k.length ≠ v.l.length then -1 else okL true none v.k v.l (deep + 1) (left - 1)) else -1 := by
 cases v; rw [okV]; rfl
theorem keyNo_at {k : List (List Int)} {i : Nat} (h : i < k.length) : keyNo (if i = 0 then none else k[i-1]?) (k.drop i) = (!nameB k[i] || (if hi : i = 0 then false else !decide (cmpB (k[i-1]'(by omega)) k[i] < 0))) := by
 rw [drop_at h]
 by_cases hi : i = 0
 · subst hi; simp [keyNo]
 · rw [if_neg hi, dif_neg hi, List.getElem?_eq_getElem (by omega)]
   rfl
theorem okL_at {m : Bool} {q : Option (List Int)} {k : List (List Int)} {l : List Val} {i : Nat} {deep left : Int} (h : i < l.length) : okL m q (k.drop i) (l.drop i) deep left = if (m && keyNo q (k.drop i)) = true then -1 else if okV l[i] deep left < 0 then -1 else okL m k[i]? (k.drop (i + 1)) (l.drop (i + 1)) deep (okV l[i] deep left) := by
 rw [drop_at h, okL]
 simp
theorem okL_no : ∀ (l : List Val) (q : Option (List Int)) (k : List (List Int)) (deep left : Int), okL false q k l deep left = okL false none [] l deep left
 | [], _, _, _, _ => rfl
 | v :: l, q, k, deep, left => by
  rw [okL, okL, okL_no l, okL_no l [].head? [].tail]
  rfl
theorem okN_at {l : List Val} {i : Nat} {deep left : Int} (h : i < l.length) : okL false none [] (l.drop i) deep left = if okV l[i] deep left < 0 then -1 else okL false none [] (l.drop (i + 1)) deep (okV l[i] deep left) := by
 rw [drop_at h, okL, okL_no _ [].head?]
 simp
theorem okL_le (l : List Val) (m : Bool) (q : Option (List Int)) (k : List (List Int)) (deep left : Int) (h : 0 ≤ left) (hu : ∀ u ∈ l, ∀ deep left : Int, okV u deep left ≤ max (left - 1) (-1) ∧ -1 ≤ okV u deep left) : okL m q k l deep left ≤ left ∧ -1 ≤ okL m q k l deep left := by
 induction l generalizing q k left with
 | nil => simp [okL]; omega
 | cons v l ih =>
  have h1 := hu v (List.mem_cons_self ..) deep left
  rw [okL]
  split
  · omega
  split
  · omega
  · have := ih k.head? k.tail (okV v deep left) (by omega) (fun u hu' => hu u (List.mem_cons_of_mem _ hu'))
    omega
theorem okV_le : ∀ (v : Val) (deep left : Int), okV v deep left ≤ max (left - 1) (-1) ∧ -1 ≤ okV v deep left := by
 refine Val.ind1 fun v ih deep left => ?_
 rw [okV_eq]
 split
 · omega
 split
 · omega
 have h0 : 0 ≤ left - 1 := by omega
 have k1 := okL_le v.l false none v.k (deep + 1) (left - 1) h0 ih
 have k2 := okL_le v.l true none v.k (deep + 1) (left - 1) h0 ih
 repeat' split
 all_goals omega
theorem p102 (v : Val) (hv : lenB v.s ∧ lenBB v.k ∧ v.l.length ≤ 1048576) (hk : ∀ x ∈ v.k, byteOk x = true) (b1 b2 b3 : Bool) (deep left : Int) (hd : 0 ≤ deep ∧ deep ≤ 10) (hl : -1 ≤ left ∧ left ≤ 100) (ih0 : ∀ u ∈ v.l, ∀ (b1 b2 b3 : Bool) (deep left : Int), 0 ≤ deep ∧ deep ≤ 10 → -1 ≤ left ∧ left ≤ 100 → phi C0 (lim C0) 102 [.ag [(iv u.kind), (iv u.n), .pv b1 (.sl (nums .u8 u.s)), .pv b2 (.sl (rws byP u.k)), .pv b3 (.sl (rws vP u.l))], (iv deep), (iv left)] [] = some ((iv (okV u deep left)), [])) : phi C0 (lim C0) 102 [.ag [(iv v.kind), (iv v.n), .pv b1 (.sl (nums .u8 v.s)), .pv b2 (.sl (rws byP v.k)), .pv b3 (.sl (rws vP v.l))], (iv deep), (iv left)] [] = some ((iv (okV v deep left)), []) := call0 Tryz.func102 (by kernel_rfl) ((show ∀ fn : Func, fn.results = #[.tmp 6] → globs fn = [0, 2, 1, 15, 3, 66, 68, 69, 73, 82, 84, 89, 91, 96, 98, 112, 7, 117, 151, 162, 6] → lim C0 102 fn [.c (code Tryz.f102)] ⟨_, _⟩ = _ from fun fn hr hg => by
 have hp29 := plan102_29
 simp [opsOf, code, Tryz.f102] at hp29
 have q1 := p135 v.n
 have q2 := fun b => p136 b v.s hv.1
 rw [okV_eq]
 simp [code, Tryz.f102, hr, hg, hp29]
 try simp (disch := omega) only [wrap_id']
 have hw : IntKind.i64.wrap (deep + 1) = deep + 1 := wrap_id' (by omega)
 by_cases hk4 : v.kind = 4
 · simp [hg, hk4, hr, hg, hp29]
   repeat' ((first | refine ifL_cases (fun h => ?_) (fun h => ?_) | refine gI_cases' (fun h => ?_) (fun h => ?_) | refine gI_cases (fun h => ?_) (fun h => ?_) | refine dI_cases' (fun h => ?_) (fun h => ?_) | refine dI_cases (fun h => ?_) (fun h => ?_)) <;> first | replace h := of_decide_eq_true h | replace h := of_decide_eq_false h | skip
            all_goals try simp [hr, hg, hp29, hr, *])
   all_goals try (intros; simp_all; done)
   refine (loop_to (s0 := ?s1) (fun x => v.l.length - x.1) (fun x => [(7, (iv ((x.1 : Nat)))), (2, (iv x.2))]) (fun x => [(16, .box [(iv 4), (iv 0), .pv b1 (.sl (nums .u8 v.s)), .pv b2 (.sl (rws byP v.k)), .pv b3 (.sl (rws vP v.l))])]) (fun x K => (if okL false none [] (v.l.drop x.1) (deep + 1) x.2 < 0 then some ((iv (-1)), []) else K [(7, (iv v.l.length)), (2, (iv (okL false none [] (v.l.drop x.1) (deep + 1) x.2)))] [(16, .box [(iv 4), (iv 0), .pv b1 (.sl (nums .u8 v.s)), .pv b2 (.sl (rws byP v.k)), .pv b3 (.sl (rws vP v.l))])])) (fun x => x.1 ≤ v.l.length ∧ 0 ≤ x.2 ∧ x.2 ≤ 100) ((0 : Nat), left - 1) ?hc1 ?h01 ?hs1 ?step1).trans ?r1
   case hc1 => simp; rfl
   case h01 => first | (simp; done) | (simp [*]; done) | exact ⟨by simp, ⟨rfl⟩⟩ | grind | (simp; omega)
   case hs1 => first | (simp; done) | (simp [*]; done)
   case r1 =>
    have e := okL_no v.l none v.k (deep + 1) (left - 1)
    have hle := okL_le v.l false none [] (deep + 1) (left - 1) (by omega) (fun u _ => okV_le u)
    rw [e]
    by_cases h0 : okL false none [] v.l (deep + 1) (left - 1) < 0
    · have h1 : okL false none [] v.l (deep + 1) (left - 1) = -1 := by omega
      simp [hg, *]
      try (clear hp29; grind)
    · simp [hg, *]
      try (clear hp29; grind)
   rintro k ⟨i, lf⟩ ⟨hi, h2, h3⟩ ih
   simp at hi h2 h3
   simp [hg]
   (first | refine ifL_cases (fun h => ?_) (fun h => ?_) | refine gI_cases' (fun h => ?_) (fun h => ?_) | refine gI_cases (fun h => ?_) (fun h => ?_) | refine dI_cases' (fun h => ?_) (fun h => ?_) | refine dI_cases (fun h => ?_) (fun h => ?_)) <;> first | replace h := of_decide_eq_true h | replace h := of_decide_eq_false h | skip
   · have hlt := h
     have q := fun b1 b2 b3 => ih0 v.l[i] (List.getElem_mem hlt) b1 b2 b3 (deep + 1) lf (by omega) (by omega)
     have hz := okV_le v.l[i] (deep + 1) lf
     rw [okN_at hlt]
     simp [hg, hlt, q, hw, hr, hg, hp29]
     (first | refine ifL_cases (fun h => ?_) (fun h => ?_) | refine gI_cases' (fun h => ?_) (fun h => ?_) | refine gI_cases (fun h => ?_) (fun h => ?_) | refine dI_cases' (fun h => ?_) (fun h => ?_) | refine dI_cases (fun h => ?_) (fun h => ?_)) <;> first | replace h := of_decide_eq_true h | replace h := of_decide_eq_false h | skip
     · simp [hg, hr, h]
     · simp [hg, h]
       try simp (disch := omega) only [wrap_id']
       refine (ih.out (i + 1, okV v.l[i] (deep + 1) lf) _ ?_ ?_ ?_).trans ?_
       · simp [hg]; omega
       · simp [hg]; omega
       · simp [hg]
       · simp [hg]
   · have e : i = v.l.length := by omega
     subst e
     have e0 : ¬ lf < 0 := by omega
     simp [hg, okL, e0]
 by_cases hk5 : v.kind = 5
 · simp [hg, hk5, hr, hg, hp29]
   repeat' ((first | refine ifL_cases (fun h => ?_) (fun h => ?_) | refine gI_cases' (fun h => ?_) (fun h => ?_) | refine gI_cases (fun h => ?_) (fun h => ?_) | refine dI_cases' (fun h => ?_) (fun h => ?_) | refine dI_cases (fun h => ?_) (fun h => ?_)) <;> first | replace h := of_decide_eq_true h | replace h := of_decide_eq_false h | skip
            all_goals try simp [hr, hg, hp29, hr, *])
   all_goals try (intros; simp_all; done)
   refine (loop_to (s0 := ?s2) (fun x => v.l.length - x.1) (fun x => [(7, (iv ((x.1 : Nat)))), (2, (iv x.2))]) (fun x => [(16, .box [(iv 5), (iv 0), .pv b1 (.sl (nums .u8 v.s)), .pv b2 (.sl (rws byP v.k)), .pv b3 (.sl (rws vP v.l))])]) (fun x K => (if okL true (if x.1 = 0 then none else v.k[x.1-1]?) (v.k.drop x.1) (v.l.drop x.1) (deep + 1) x.2 < 0 then some ((iv (-1)), []) else K [(7, (iv v.l.length)), (2, (iv (okL true (if x.1 = 0 then none else v.k[x.1-1]?) (v.k.drop x.1) (v.l.drop x.1) (deep + 1) x.2)))] [(16, .box [(iv 5), (iv 0), .pv b1 (.sl (nums .u8 v.s)), .pv b2 (.sl (rws byP v.k)), .pv b3 (.sl (rws vP v.l))])])) (fun x => x.1 ≤ v.l.length ∧ 0 ≤ x.2 ∧ x.2 ≤ 100) ((0 : Nat), left - 1) ?hc2 ?h02 ?hs2 ?step2).trans ?r2
   case hc2 => simp; rfl
   case h02 => first | (simp; done) | (simp [*]; done) | exact ⟨by simp, ⟨rfl⟩⟩ | grind | (simp; omega)
   case hs2 => first | (simp; done) | (simp [*]; done)
   case r2 =>
    have hle := okL_le v.l true none v.k (deep + 1) (left - 1) (by omega) (fun u _ => okV_le u)
    simp [hg]
    by_cases h0 : okL true none v.k v.l (deep + 1) (left - 1) < 0
    · have h1 : okL true none v.k v.l (deep + 1) (left - 1) = -1 := by omega
      simp [hg, *]
      try (clear hp29; grind)
    · simp [hg, *]
      try (clear hp29; grind)
   rintro k ⟨i, lf⟩ ⟨hi, h2, h3⟩ ih
   simp at hi h2 h3
   simp [hg]
   (first | refine ifL_cases (fun h => ?_) (fun h => ?_) | refine gI_cases' (fun h => ?_) (fun h => ?_) | refine gI_cases (fun h => ?_) (fun h => ?_) | refine dI_cases' (fun h => ?_) (fun h => ?_) | refine dI_cases (fun h => ?_) (fun h => ?_)) <;> first | replace h := of_decide_eq_true h | replace h := of_decide_eq_false h | skip
   · have hlt : i < v.l.length := h
     have hkl : v.k.length = v.l.length := by assumption
     have hlk : i < v.k.length := by omega
     have q := fun b1 b2 b3 => ih0 v.l[i] (List.getElem_mem hlt) b1 b2 b3 (deep + 1) lf (by omega) (by omega)
     have hz := okV_le v.l[i] (deep + 1) lf
     have q4 := fun b => p134 b v.k[i] (by have : v.k[i].length ≤ 1048576 := hv.2.1.2 _ (List.getElem_mem hlk); omega)
     have eg : v.k[i]? = some v.k[i] := List.getElem?_eq_getElem hlk
     rw [okL_at hlt, keyNo_at hlk, eg]
     by_cases hi0 : i = 0
     · subst hi0
       simp [hg, hlt, hlk, byP, q4, q, hw, hr, hg, hp29]
       repeat' ((first | refine ifL_cases (fun h => ?_) (fun h => ?_) | refine gI_cases' (fun h => ?_) (fun h => ?_) | refine gI_cases (fun h => ?_) (fun h => ?_) | refine dI_cases' (fun h => ?_) (fun h => ?_) | refine dI_cases (fun h => ?_) (fun h => ?_)) <;> first | replace h := of_decide_eq_true h | replace h := of_decide_eq_false h | skip
                all_goals try simp [hr, hg, hp29, hlt, hlk, byP, hr, q, hw, *])
       all_goals try simp [hg, hr, *]
       refine (ih.out (1, okV v.l[0] (deep + 1) lf) _ ?_ ?_ ?_).trans ?_
       · simp [hg]; omega
       · simp [hg]; omega
       · simp [hg, *]
       · simp [hg, *]
     · obtain ⟨j, hj⟩ : ∃ j, j + 1 = i := ⟨i - 1, by omega⟩
       have hij : i - 1 = j := by omega
       have hlj : j < v.k.length := by omega
       have q5 := bin_geq (tk := .str) (hk _ (List.getElem_mem hlj)) (hk _ (List.getElem_mem hlk))
       have hw1 : IntKind.i64.wrap ((i : Int) - 1) = (j : Int) := by rw [show (i : Int) - 1 = j by omega]; exact wrap_id' (by omega)
       have e3 : 0 < i := by omega
       have hlj2 : j < v.l.length := by omega
       have hw2 : IntKind.i64.wrap ((i : Int) + 1) = i + 1 := wrap_id' (by omega)
       simp only [hij]
       simp [hg, hlt, hlk, byP, q4, q, hw, hi0, hr, hg, hp29]
       repeat' ((first | refine ifL_cases (fun h => ?_) (fun h => ?_) | refine gI_cases' (fun h => ?_) (fun h => ?_) | refine gI_cases (fun h => ?_) (fun h => ?_) | refine dI_cases' (fun h => ?_) (fun h => ?_) | refine dI_cases (fun h => ?_) (fun h => ?_)) <;> first | replace h := of_decide_eq_true h | replace h := of_decide_eq_false h | skip
                all_goals try simp [hr, hg, hp29, hlt, hlk, hlj, hlj2, byP, hr, q, hw, hw1, hw2, e3, q5, *])
       all_goals try simp [hg, hr, *]
       · refine (ih.out (i + 1, okV v.l[i] (deep + 1) lf) _ ?_ ?_ ?_).trans ?_
         · simp [hg]; omega
         · simp [hg]; omega
         · simp [hg, *]
         · have h10 : ¬ 0 ≤ cmpB v.k[j] v.k[i] := by omega
           simp [hg, h10, eg]
       · intro h9
         exfalso
         clear hp29 q5 q4 q ih ih0
         split at h9
         · omega
         · simp_all
   · have e : i = v.l.length := by omega
     subst e
     have e0 : ¬ lf < 0 := by omega
     have e2 : v.k.drop v.l.length = [] := drop_end (by omega)
     simp [hg, okL, e0]
 repeat' ((first | refine ifL_cases (fun h => ?_) (fun h => ?_) | refine gI_cases' (fun h => ?_) (fun h => ?_) | refine gI_cases (fun h => ?_) (fun h => ?_) | refine dI_cases' (fun h => ?_) (fun h => ?_) | refine dI_cases (fun h => ?_) (fun h => ?_)) <;> first | replace h := of_decide_eq_true h | replace h := of_decide_eq_false h | skip
          all_goals try simp [hr, hg, hp29, q1, q2, hr, *])
 all_goals try grind [inI]
 ) Tryz.f102 Tryz.results102 gl102)
theorem pL2ok (v : Val) (hv : VLen v) (hb : VBy v) : ∀ (b1 b2 b3 : Bool) (deep left : Int), 0 ≤ deep ∧ deep ≤ 10 → -1 ≤ left ∧ left ≤ 100 → phi C0 (lim C0) 102 [.ag [(iv v.kind), (iv v.n), .pv b1 (.sl (nums .u8 v.s)), .pv b2 (.sl (rws byP v.k)), .pv b3 (.sl (rws vP v.l))], (iv deep), (iv left)] [] = some ((iv (okV v deep left)), []) := by
 revert hv hb
 refine Val.ind1 (P := fun v => VLen v → VBy v → ∀ (b1 b2 b3 : Bool) (deep left : Int), 0 ≤ deep ∧ deep ≤ 10 → -1 ≤ left ∧ left ≤ 100 → phi C0 (lim C0) 102 [.ag [(iv v.kind), (iv v.n), .pv b1 (.sl (nums .u8 v.s)), .pv b2 (.sl (rws byP v.k)), .pv b3 (.sl (rws vP v.l))], (iv deep), (iv left)] [] = some ((iv (okV v deep left)), [])) (fun v ih hv hb b1 b2 b3 deep left h0 h1 => ?_) v
 exact p102 v hv.here hb.here.2 b1 b2 b3 deep left h0 h1 fun u hu => ih u hu (hv.sub u hu) (hb.sub u hu)
theorem p59 (v : Val) (hv : VLen v) (hb : VBy v) (b1 b2 b3 : Bool) : phi C0 (lim C0) 59 [.ag [(iv v.kind), (iv v.n), .pv b1 (.sl (nums .u8 v.s)), .pv b2 (.sl (rws byP v.k)), .pv b3 (.sl (rws vP v.l))]] [] = some ((bv (decide (0 ≤ okV v 1 40))), []) := call0 Tryz.func59 (by kernel_rfl) ((show ∀ fn : Func, fn.results = #[.tmp 2] → lim C0 59 fn [.c (code Tryz.f59)] ⟨_, _⟩ = _ from fun fn hr => by
 have q := fun b1 b2 b3 => pL2ok v hv hb b1 b2 b3 1 40 (by omega) (by omega)
 simp [code, Tryz.f59, hr, q]
 ) Tryz.f59 Tryz.results59)
end Go.Proofs.YtgbfmdihmnpcdaaGreatDoor
