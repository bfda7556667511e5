/- An entry is looked for, by the program. -/
import Derived.Test.YtgbfmdihmnpcdaaGreatDoorRW3
import Derived.Test.YtgbfmdihmnpcdaaGreatDoorRU7
namespace Go.Proofs.YtgbfmdihmnpcdaaGreatDoor
open Go Go.Pm Go.Proofs
set_option linter.unusedVariables false
set_option linter.unusedSimpArgs false
set_option maxRecDepth 100000
set_option maxHeartbeats 4000000
theorem bin_shr1 (x : Nat) (h : x < 18446744073709551616) : binSc (.int .u64) .shr (.int .u64 (x : Int)) (.int .u64 1) = some (.int .u64 ((x / 2 : Nat) : Int)) := by
 simp [binSc, binOp, Op.shift, pureSem]
 rw [show min 1 IntKind.u64.bits = 1 from rfl]
 show some (Value.int .u64 ((x : Int).fdiv (2 ^ 1))) = _
 rw [Int.fdiv_eq_ediv_of_nonneg _ (by decide)]
 rfl
def bsN (a : List Int) (l : List En) (i j : Nat) : Nat := if i < j then (match l[(i + j) / 2]? with
    | some x => if cmpB x.addr a < 0 then bsN a l ((i + j) / 2 + 1) j else bsN a l i ((i + j) / 2)
    | none => i) else i
termination_by j - i
decreasing_by
 all_goals omega
def fdN (a : List Int) (l : List En) (i : Nat) : Bool := match l[i]? with
 | some x => decide (cmpB x.addr a = 0)
 | none => false
theorem p178 (x : En) (a : List Int) (b : Bool) (hx : byteOk x.addr = true) (ha : byteOk a = true) : phi C0 (lim C0) 178 [.ag [.pv false (.sl (nums .u8 x.addr)), (iv x.val.kind), (iv x.val.n), .pv false (.sl (nums .u8 x.val.s)), .pv false (.sl (rws byP x.val.k)), .pv false (.sl (rws vP x.val.l)), .pv false (.sl (rws byP x.deps)), (bv x.taint), (iv x.turned)], .pv b (.sl (nums .u8 a))] [] = some ((iv (cmpB x.addr a)), []) := call0 Tryz.func178 (by kernel_rfl) ((show ∀ fn : Func, fn.results = #[.tmp 4] → lim C0 178 fn [.c (code Tryz.f178)] ⟨_, _⟩ = _ from fun fn hr => by
 have q := fun b b' => p145 b b' x.addr a hx ha
 simp [code, Tryz.f178, hr, q]
 ) Tryz.f178 Tryz.results178)
theorem p177 (b b' b'' : Bool) (l : List En) (a : List Int) (hl : l.length ≤ 1048576) (hx : ∀ x ∈ l, byteOk x.addr = true) (ha : byteOk a = true) : phi C0 (lim C0) 177 [.pv b (.sl (rws nP l)), .pv b' (.sl (nums .u8 a)), .pv b'' (.cl 178 [])] [] = some (.tu [(iv ((bsN a l 0 l.length : Nat))), (bv (fdN a l (bsN a l 0 l.length)))], []) := call0 Tryz.func177 (by kernel_rfl) ((show ∀ fn : Func, fn.results = #[.tmp 6, .tmp 7] → globs fn = [0, 8, 10, 9, 17, 1, 11, 2, 31, 6, 7] → lim C0 177 fn [.c (code Tryz.f177)] ⟨_, _⟩ = _ from fun fn hr hg => by
 have hp2 := plan177_2
 simp [opsOf, code, Tryz.f177] at hp2
 have hp8 := plan177_8
 simp [opsOf, code, Tryz.f177] at hp8
 simp [code, Tryz.f177, hr, hg, hp2, hp8]
 refine (loop_to (s0 := ?s1) (fun x => x.2 - x.1) (fun x => [(9, (iv ((x.1 : Nat)))), (10, (iv ((x.2 : Nat))))]) (fun x => []) (fun x K => K [(9, (iv ((bsN a l x.1 x.2 : Nat)))), (10, (iv ((bsN a l x.1 x.2 : Nat))))] []) (fun x => x.1 ≤ x.2 ∧ x.2 ≤ l.length) ((0 : Nat), l.length) ?hc1 ?h01 ?hs1 ?step1).trans ?r1
 case hc1 => simp; rfl
 case h01 => first | (simp; done) | (simp [*]; done) | exact ⟨by simp, ⟨rfl⟩⟩ | grind | (simp; omega)
 case hs1 => first | (simp; done) | (simp [*]; done)
 case r1 =>
  generalize bsN a l 0 l.length = r at *
  simp [hr, hg, hp2, hp8]
  by_cases h : r < l.length
  · have q := p178 l[r] a b' (hx _ (List.getElem_mem h)) ha
    simp [hg, h, q, fdN, hr, hg, hp2, hp8]
  · have e : l[r]? = none := List.getElem?_eq_none (by omega)
    simp [hg, h, fdN, e, hr, hg, hp2, hp8]
 rintro k ⟨i, j⟩ ⟨hi, hj⟩ ih
 simp at hi hj
 simp [hg]
 rw [bsN]
 (first | refine ifL_cases (fun h => ?_) (fun h => ?_) | refine gI_cases' (fun h => ?_) (fun h => ?_) | refine gI_cases (fun h => ?_) (fun h => ?_) | refine dI_cases' (fun h => ?_) (fun h => ?_) | refine dI_cases (fun h => ?_) (fun h => ?_)) <;> first | replace h := of_decide_eq_true h | replace h := of_decide_eq_false h | skip
 · have hlt : i < j := h
   rw [if_pos hlt]
   have hm : (i + j) / 2 < l.length := by omega
   have em : l[(i + j) / 2]? = some l[(i + j) / 2] := List.getElem?_eq_getElem hm
   rw [em]
   have w1 : IntKind.i64.wrap ((i : Int) + j) = i + j := wrap_id' (by omega)
   have w2 : IntKind.u64.wrap ((i : Int) + j) = ((i + j : Nat) : Int) := by rw [wrap_u64 (by omega)]; simp [hg]
   have w3 := bin_shr1 (i + j) (by omega)
   have w4 : IntKind.i64.wrap (((i + j) / 2 : Nat) : Int) = (((i + j) / 2 : Nat) : Int) := wrap_id' (by omega)
   have w5 : IntKind.i64.wrap ((((i + j) / 2 : Nat) : Int) + 1) = (((i + j) / 2 + 1 : Nat) : Int) := by rw [wrap_id' (by omega)]; simp [hg]
   have q := p178 l[(i + j) / 2] a b' (hx _ (List.getElem_mem hm)) ha
   have m1 : i ≤ (i + j) / 2 := by omega
   have m2 : (i + j) / 2 < j := by omega
   generalize (i + j) / 2 = m at *
   simp only [Int.natCast_add] at w2 w3
   simp [hg, hlt, w1, w2, w3, w4, hm, q, hr, hg, hp2, hp8]
   (first | refine ifL_cases (fun h => ?_) (fun h => ?_) | refine gI_cases' (fun h => ?_) (fun h => ?_) | refine gI_cases (fun h => ?_) (fun h => ?_) | refine dI_cases' (fun h => ?_) (fun h => ?_) | refine dI_cases (fun h => ?_) (fun h => ?_)) <;> first | replace h := of_decide_eq_true h | replace h := of_decide_eq_false h | skip
   · simp [hg, w5, h, hr, hg, hp2, hp8]
     refine (ih.out (m + 1, j) _ ?_ ?_ ?_).trans ?_
     · simp [hg]; omega
     · simp [hg]; omega
     · simp [hg]
     · simp [hg]
   · simp [hg, h, hr, hg, hp2, hp8]
     refine (ih.out (i, m) _ ?_ ?_ ?_).trans ?_
     · simp [hg]; omega
     · simp [hg]; omega
     · simp [hg]
     · simp [hg]
 · rw [if_neg h]
   have : i = j := by omega
   subst this
   simp [hg]
 ) Tryz.f177 Tryz.results177 gl177)
theorem p155 (serial : Int) (opn : Bool) (pend : List Int) (act : Int) (ents : List En) (a : List Int) (b : Bool) (hl : ents.length ≤ 1048576) (hx : ∀ x ∈ ents, byteOk x.addr = true) (ha : byteOk a = true) (b0 : Bool) : phi C0 (lim C0) 155 [.ag [(iv serial), (bv opn), .pv false (.sl (nums .u8 pend)), (iv act), .pv b0 (.sl (rws nP ents))], .pv b (.sl (nums .u8 a))] [] = some (.tu [(iv ((bsN a ents 0 ents.length : Nat))), (bv (fdN a ents (bsN a ents 0 ents.length)))], []) := call0 Tryz.func155 (by kernel_rfl) ((show ∀ fn : Func, fn.results = #[.tmp 4, .tmp 5] → lim C0 155 fn [.c (code Tryz.f155)] ⟨_, _⟩ = _ from fun fn hr => by
 have q := fun b b' b'' => p177 b b' b'' ents a hl hx ha
 simp [code, Tryz.f155, hr, q]
 ) Tryz.f155 Tryz.results155)
end Go.Proofs.YtgbfmdihmnpcdaaGreatDoor
namespace Go.Proofs.YtgbfmdihmnpcdaaGreatDoor
open Go Go.Pm Go.Proofs
set_option linter.unusedVariables false
set_option linter.unusedSimpArgs false
theorem cmpB_self : ∀ a : List Int, cmpB a a = 0
 | [] => rfl
 | x :: a => by simp [cmpB, cmpB_self a]
theorem cmpB_trans : ∀ {a b c : List Int}, cmpB a b < 0 → cmpB b c < 0 → cmpB a c < 0
 | [], [], _, h, _ => by simp [cmpB] at h
 | [], _ :: _, [], _, h => by simp [cmpB] at h
 | [], _ :: _, _ :: _, _, _ => by simp [cmpB]
 | _ :: _, [], _, h, _ => by simp [cmpB] at h
 | _ :: _, _ :: _, [], _, h => by simp [cmpB] at h
 | x :: a, y :: b, z :: c, h, k => by
  simp only [cmpB] at h k ⊢
  by_cases h1 : x < y
  · by_cases k1 : y < z
    · rw [if_pos (by omega)]; decide
    · rw [if_neg k1] at k
      by_cases k2 : z < y
      · rw [if_pos k2] at k; cases k
      · rw [if_pos (by omega)]; decide
  · rw [if_neg h1] at h
    by_cases h2 : y < x
    · rw [if_pos h2] at h; cases h
    · rw [if_neg h2] at h
      by_cases k1 : y < z
      · rw [if_pos (by omega)]; decide
      · rw [if_neg k1] at k
        by_cases k2 : z < y
        · rw [if_pos k2] at k; cases k
        · rw [if_neg k2] at k
          rw [if_neg (by omega), if_neg (by omega)]
          exact cmpB_trans h k
def Srt (l : List En) : Prop := ∀ (s t : Nat) (x y : En), s < t → l[s]? = some x → l[t]? = some y → cmpB x.addr y.addr < 0
theorem bsN_spec {a : List Int} {l : List En} (hs : Srt l) : ∀ (n i j : Nat), j - i ≤ n → i ≤ j → j ≤ l.length → (∀ t x, t < i → l[t]? = some x → cmpB x.addr a < 0) → (∀ t x, j ≤ t → l[t]? = some x → ¬ cmpB x.addr a < 0) →
    (∀ t x, t < bsN a l i j → l[t]? = some x → cmpB x.addr a < 0) ∧ (∀ t x, bsN a l i j ≤ t → l[t]? = some x → ¬ cmpB x.addr a < 0) := by
 intro n
 induction n with
 | zero =>
  intro i j h1 h2 h3 h4 h5
  have : i = j := by omega
  subst this
  rw [bsN, if_neg (by omega)]
  exact ⟨h4, h5⟩
 | succ n ih =>
  intro i j h1 h2 h3 h4 h5
  rw [bsN]
  by_cases hlt : i < j
  · rw [if_pos hlt]
    have hm : (i + j) / 2 < l.length := by omega
    have m1 : i ≤ (i + j) / 2 := by omega
    have m2 : (i + j) / 2 < j := by omega
    generalize (i + j) / 2 = m at *
    have em : l[m]? = some l[m] := List.getElem?_eq_getElem hm
    rw [em]
    dsimp only
    by_cases hc : cmpB l[m].addr a < 0
    · rw [if_pos hc]
      refine ih (m + 1) j (by omega) (by omega) h3 (fun t x ht hx => ?_) h5
      by_cases e : t = m
      · subst e; rw [em] at hx; cases hx; exact hc
      · exact cmpB_trans (hs t m x _ (by omega) hx em) hc
    · rw [if_neg hc]
      refine ih i m (by omega) (by omega) (by omega) h4 (fun t x ht hx => ?_)
      by_cases e : t = m
      · subst e; rw [em] at hx; cases hx; exact hc
      · exact fun h => hc (cmpB_trans (hs m t _ x (by omega) em hx) h)
  · rw [if_neg hlt]
    have : i = j := by omega
    subst this
    exact ⟨h4, h5⟩
theorem fdN_has {a : List Int} {l : List En} (hs : Srt l) : fdN a l (bsN a l 0 l.length) = (l.any fun x => decide (x.addr = a)) := by
 obtain ⟨h1, h2⟩ := bsN_spec (a := a) hs l.length 0 l.length (by omega) (by omega) (Nat.le_refl _) (fun t x h => by omega) (fun t x h hx => by
  have := (List.getElem?_eq_some_iff.1 hx).1
  omega)
 generalize bsN a l 0 l.length = r at *
 cases hh : l.any fun x => decide (x.addr = a)
 · unfold fdN
   cases hr : l[r]? with
   | none => rfl
   | some x =>
    have := List.any_eq_false.1 hh x (List.mem_of_getElem? hr)
    simp at this
    simp
    exact fun h => this (cmpB_zero.1 h)
 · obtain ⟨x, hx, he⟩ := List.any_eq_true.1 hh
   simp at he
   obtain ⟨t, ht⟩ := List.getElem?_of_mem hx
   have c0 : cmpB x.addr a = 0 := by rw [he]; exact cmpB_self a
   have htr : ¬ t < r := fun h => by have := h1 t x h ht; omega
   have htl := (List.getElem?_eq_some_iff.1 ht).1
   have e : t = r := by
    by_cases e : t = r
    · exact e
    · exfalso
      have hrl : r < l.length := by omega
      have er : l[r]? = some l[r] := List.getElem?_eq_getElem hrl
      have := hs r t _ x (by omega) er ht
      rw [he] at this
      exact h2 r _ (Nat.le_refl _) er this
   subst e
   simp [fdN, ht, c0]
theorem cmpB_anti : ∀ a b : List Int, cmpB a b = - cmpB b a
 | [], [] => rfl
 | [], _ :: _ => rfl
 | _ :: _, [] => rfl
 | x :: a, y :: b => by
  simp only [cmpB]
  by_cases h1 : x < y
  · rw [if_pos h1, if_neg (by omega), if_pos h1]
  · by_cases h2 : y < x
    · rw [if_neg h1, if_pos h2, if_pos h2]; rfl
    · rw [if_neg h1, if_neg h2, if_neg h2, if_neg h1]
      exact cmpB_anti a b
def putL (x : En) : Bool → List En → List En
 | p, [] => if p then [] else [x]
 | p, y :: l => (if p = false ∧ cmpB x.addr y.addr ≤ 0 then [x] else []) ++ ((if cmpB x.addr y.addr ≠ 0 then [y] else []) ++ putL x (p || decide (cmpB x.addr y.addr ≤ 0)) l)
theorem putL_true (x : En) : ∀ l : List En, (∀ y ∈ l, cmpB x.addr y.addr < 0) → putL x true l = l
 | [], _ => rfl
 | y :: l, h => by
  have h1 := h y (List.mem_cons_self ..)
  have ih := putL_true x l fun z hz => h z (List.mem_cons_of_mem _ hz)
  simp only [putL, Bool.true_or, ih]
  rw [if_neg (by simp), if_pos (by omega)]
  rfl
theorem Srt.tail {y : En} {l : List En} (h : Srt (y :: l)) : Srt l := fun s t a b hst ha hb => h (s + 1) (t + 1) a b (by omega) (by simpa using ha) (by simpa using hb)
theorem Srt.head {y : En} {l : List En} (h : Srt (y :: l)) : ∀ z ∈ l, cmpB y.addr z.addr < 0 := fun z hz => by
 obtain ⟨t, ht⟩ := List.getElem?_of_mem hz
 exact h 0 (t + 1) y z (by omega) rfl (by simpa using ht)
theorem putL_at (x : En) : ∀ (l : List En) (k : Nat), Srt l → (∀ t y, t < k → l[t]? = some y → cmpB y.addr x.addr < 0) → (∀ t y, k ≤ t → l[t]? = some y → ¬ cmpB y.addr x.addr < 0) → k ≤ l.length →
    putL x false l = if fdN x.addr l k then l.set k x else l.take k ++ x :: l.drop k
 | [], k, _, _, _, hk => by
  have : k = 0 := by simpa using hk
  subst this
  simp [putL, fdN]
 | y :: l, 0, hs, _, h2, _ => by
  have h3 := h2 0 y (by omega) rfl
  have h4 := cmpB_anti x.addr y.addr
  have hh := hs.head
  have e1 : fdN x.addr (y :: l) 0 = decide (cmpB y.addr x.addr = 0) := rfl
  rw [e1]
  simp only [putL]
  rw [if_pos ⟨trivial, by omega⟩]
  by_cases h5 : cmpB y.addr x.addr = 0
  · have e : y.addr = x.addr := cmpB_zero.1 h5
    rw [if_neg (by omega), decide_eq_true h5, if_pos rfl, show (false || decide (cmpB x.addr y.addr ≤ 0)) = true by simp; omega, putL_true x l (fun z hz => by rw [← e]; exact hh z hz)]
    rfl
  · rw [if_pos (by omega), decide_eq_false h5, show (false || decide (cmpB x.addr y.addr ≤ 0)) = true by simp; omega, putL_true x l (fun z hz => cmpB_trans (by omega : cmpB x.addr y.addr < 0) (hh z hz))]
    simp
 | y :: l, k + 1, hs, h1, h2, hk => by
  have h3 := h1 0 y (by omega) rfl
  have h4 := cmpB_anti x.addr y.addr
  have ih := putL_at x l k hs.tail (fun t z ht hz => h1 (t + 1) z (by omega) (by simpa using hz)) (fun t z ht hz => h2 (t + 1) z (by omega) (by simpa using hz)) (by simpa using hk)
  have e1 : fdN x.addr (y :: l) (k + 1) = fdN x.addr l k := by simp [fdN]
  simp only [putL]
  rw [if_neg (by omega), if_pos (by omega), show (false || decide (cmpB x.addr y.addr ≤ 0)) = false by simp; omega, ih, e1]
  split <;> simp
theorem bsN_le {a : List Int} {l : List En} : ∀ (n i j : Nat), j - i ≤ n → i ≤ j → i ≤ bsN a l i j ∧ bsN a l i j ≤ j := by
 intro n
 induction n with
 | zero =>
  intro i j h1 h2
  rw [bsN, if_neg (by omega)]
  omega
 | succ n ih =>
  intro i j h1 h2
  rw [bsN]
  by_cases hlt : i < j
  · rw [if_pos hlt]
    split
    · split
      · have := ih ((i + j) / 2 + 1) j (by omega) (by omega)
        omega
      · have := ih i ((i + j) / 2) (by omega) (by omega)
        omega
    · omega
  · rw [if_neg hlt]
    omega
theorem bsN_at {a : List Int} {l : List En} (hs : Srt l) : (∀ t x, t < bsN a l 0 l.length → l[t]? = some x → cmpB x.addr a < 0) ∧ (∀ t x, bsN a l 0 l.length ≤ t → l[t]? = some x → ¬ cmpB x.addr a < 0) ∧ bsN a l 0 l.length ≤ l.length := by
 obtain ⟨h1, h2⟩ := bsN_spec (a := a) hs l.length 0 l.length (by omega) (by omega) (Nat.le_refl _) (fun t x h => by omega) (fun t x h hx => by
  have := (List.getElem?_eq_some_iff.1 hx).1
  omega)
 exact ⟨h1, h2, (bsN_le l.length 0 l.length (by omega) (by omega)).2⟩
theorem put_is {x : En} {l : List En} (hs : Srt l) : putL x false l = if fdN x.addr l (bsN x.addr l 0 l.length) then l.set (bsN x.addr l 0 l.length) x else l.take (bsN x.addr l 0 l.length) ++ x :: l.drop (bsN x.addr l 0 l.length) := by
 obtain ⟨h1, h2, h3⟩ := bsN_at (a := x.addr) hs
 exact putL_at x l _ hs h1 h2 h3
end Go.Proofs.YtgbfmdihmnpcdaaGreatDoor
