/- Values that are ok, by the program. -/
import Derived.Test.YtgbfmdihmnpcdaaGreatDoorV3
namespace Go.Proofs.YtgbfmdihmnpcdaaGreatDoor
open Go Go.Pm Go.Proofs
set_option linter.unusedVariables false
set_option linter.unusedSimpArgs false
set_option maxRecDepth 100000
set_option maxHeartbeats 4000000
def ascB : Option (List Int) → List (List Int) → Bool
 | _, [] => true
 | none, k :: l => nameB k && ascB (some k) l
 | some q, k :: l => nameB k && decide (cmpB q k < 0) && ascB (some k) l
mutual
def shV : Val → Int → Bool
 | .mk kind n s k l, left => if left = 0 then false else
  if kind = 0 ∨ kind = 6 then decide (n = 0) && decide (s = []) && decide (k = []) && l.isEmpty else
  if kind = 1 then inI n 0 1 && decide (s = []) && decide (k = []) && l.isEmpty else
  if kind = 2 then inI n (-1000000000000) 1000000000000 && decide (s = []) && decide (k = []) && l.isEmpty else
  if kind = 3 then textB s && decide (n = 0) && decide (k = []) && l.isEmpty else
  if kind = 4 then decide (k = []) && (decide (n = 0) && decide (s = []) && decide (l.length ≤ 40) && shVs l (left - 1)) else
  if kind = 5 then decide (k.length = l.length) && ascB none k && (decide (n = 0) && decide (s = []) && decide (l.length ≤ 40) && shVs l (left - 1)) else false
def shVs : List Val → Int → Bool
 | [], _ => true
 | v :: l, left => shV v left && shVs l left
end
mutual
def ptV : Val → Nat
 | .mk _ _ _ _ l => 1 + ptVs l
def ptVs : List Val → Nat
 | [] => 0
 | v :: l => ptV v + ptVs l
end
theorem ptV_eq (v : Val) : ptV v = 1 + ptVs v.l := by cases v; rw [ptV]; rfl
@[simp] theorem ptVs_nil : ptVs [] = 0 := rfl
theorem ptVs_app (l m : List Val) : ptVs (l ++ m) = ptVs l + ptVs m := by
 induction l with
 | nil => simp [ptVs]
 | cons v l ih => simp [ptVs, ih]; omega
theorem ptVs_mem {l : List Val} {v : Val} (h : v ∈ l) : ptV v ≤ ptVs l := by
 induction l with
 | nil => cases h
 | cons x l ih =>
  rw [ptVs]
  rcases List.mem_cons.1 h with rfl | h
  · omega
  · have := ih h; omega
theorem ptVs_take {l : List Val} {i : Nat} (h : i < l.length) : ptVs (l.take (i + 1)) = ptVs (l.take i) + ptV l[i] := by
 rw [take_at h, ptVs_app]; simp [ptVs]
theorem ptVs_take_le (l : List Val) (i : Nat) : ptVs (l.take i) ≤ ptVs l := by
 have := ptVs_app (l.take i) (l.drop i)
 rw [List.take_append_drop] at this
 omega
theorem szL_pt {n : Nat} {left : Int} (h : ¬ szL n left < 0) : szL n left = left - n := by unfold szL at *; split at h <;> omega
theorem szV_pt : ∀ (v : Val) (left : Int), 0 ≤ left → ¬ szV v left < 0 → (ptV v : Int) ≤ 1 + (left - szV v left) := by
 have key : ∀ (l : List Val), (∀ u ∈ l, ∀ left : Int, 0 ≤ left → ¬ szV u left < 0 → (ptV u : Int) ≤ 1 + (left - szV u left)) → ∀ left : Int, 0 ≤ left → ¬ szVs l left < 0 → (ptVs l : Int) ≤ l.length + (left - szVs l left) := by
  intro l
  induction l with
  | nil => intro _ left _ _; simp [szVs, ptVs]
  | cons v l ih =>
   intro hu left h hs
   have h1 := szV_le v left h
   rw [szVs] at hs ⊢
   split at hs
   · omega
   rename_i h3
   rw [if_neg h3]
   have i1 := hu v (List.mem_cons_self ..) left h h3
   have i2 := ih (fun u hu' => hu u (List.mem_cons_of_mem _ hu')) (szV v left) (by omega) hs
   simp [ptVs]
   omega
 refine Val.ind1 fun v ih left h hs => ?_
 have h1 := szL_le v.s.length left h
 rw [szV_eq] at hs ⊢
 rw [ptV_eq]
 split at hs
 · omega
 rename_i a1
 have b1 := szL_ok a1
 have h2 := szBB_le v.k (szL v.s.length left) (by omega)
 rw [if_neg a1]
 split at hs
 · omega
 rename_i a2
 rw [if_neg a2]
 have h3 := szL_le v.l.length (szBB v.k (szL v.s.length left)) (by omega)
 unfold szVV at hs ⊢
 split at hs
 · omega
 rename_i a3
 rw [if_neg a3]
 have b3 := szL_ok a3
 have c3 := szL_pt a3
 have := key v.l ih _ (by omega) hs
 omega
def fstB {α : Type} (g : α → Bool) : List α → Nat → Int
 | [], _ => -1
 | v :: l, i => if g v = true then i else fstB g l (i + 1)
theorem fstB_at {α : Type} {g : α → Bool} {l : List α} {i : Nat} (h : i < l.length) : fstB g (l.drop i) i = if g l[i] = true then (i : Int) else fstB g (l.drop (i + 1)) (i + 1) := by rw [drop_at h]; rfl
def anyB {α : Type} (g : α → Bool) : List α → Bool
 | [] => false
 | v :: l => g v || anyB g l
theorem fstB_any {α : Type} {g : α → Bool} : ∀ {l : List α} {i : Nat}, (decide (0 ≤ fstB g l i)) = anyB g l
 | [], _ => rfl
 | v :: l, i => by
  have ih := fstB_any (g := g) (l := l) (i := i + 1)
  by_cases hg : g v = true
  · simp [fstB, anyB, hg]
  · have e : fstB g (v :: l) i = fstB g l (i + 1) := by rw [fstB, if_neg hg]
    simp only [e, ih, anyB]
    simp at hg
    simp [hg]
theorem fstB_end {α : Type} {g : α → Bool} {l : List α} {i : Nat} (h : ¬ 0 ≤ fstB g l i) : fstB g l i = -1 := by
 induction l generalizing i with
 | nil => rfl
 | cons v l ih =>
  rw [fstB] at h ⊢
  split at h
  · omega
  · rename_i hg
    rw [if_neg hg]
    exact ih h
theorem p172 (b b' : Bool) (l : List Val) (g : Val → Bool) (f : Nat) (cs : List PV) (hl : l.length ≤ 1048576) (hs : sgOf f = ⟨[], .d, false⟩) (hf : ∀ v ∈ l, ∀ b1 b2 b3 : Bool, phi C0 (lim C0) f [.ag [(iv v.kind), (iv v.n), .pv b1 (.sl (nums .u8 v.s)), .pv b2 (.sl (rws byP v.k)), .pv b3 (.sl (rws vP v.l))], .pv b' (.pt cs)] [] = some ((bv (g v)), [])) : phi C0 (lim C0) 172 [.pv b (.sl (rws vP l)), .pv b' (.cl f [.pt cs])] [] = some ((iv (fstB g l 0)), []) := call0 Tryz.func172 (by kernel_rfl) ((show ∀ fn : Func, fn.results = #[.tmp 4] → globs fn = [0, 8, 7, 9, 5, 1, 16, 4] → lim C0 172 fn [.c (code Tryz.f172)] ⟨_, _⟩ = _ from fun fn hr hg => by
 simp [code, Tryz.f172, hr, hg]
 refine (loop_to (s0 := ?s1) (fun i => l.length - i) (fun i => [(8, (iv ((i : Nat))))]) (fun i => []) (fun i K => (if 0 ≤ fstB g (l.drop i) i then some ((iv (fstB g (l.drop i) i)), []) else K [(8, (iv l.length))] [])) (fun i => i ≤ l.length) 0 ?hc1 ?h01 ?hs1 ?step1).trans ?r1
 case hc1 => simp; rfl
 case h01 => first | (simp; done) | (simp [*]; done) | exact ⟨by simp, ⟨rfl⟩⟩ | grind | (simp; omega)
 case hs1 => first | (simp; done) | (simp [*]; done)
 case r1 =>
  simp [hg, hr]
  intro h
  have := fstB_end (i := 0) (by omega : ¬ 0 ≤ fstB g l 0)
  omega
 intro k i hi ih
 simp [hg]
 (first | refine ifL_cases (fun h => ?_) (fun h => ?_) | refine gI_cases' (fun h => ?_) (fun h => ?_) | refine gI_cases (fun h => ?_) (fun h => ?_) | refine dI_cases' (fun h => ?_) (fun h => ?_) | refine dI_cases (fun h => ?_) (fun h => ?_)) <;> first | replace h := of_decide_eq_true h | replace h := of_decide_eq_false h | skip
 · have hlt := h
   have q := hf l[i] (List.getElem_mem hlt)
   simp [hg, hlt, q, hs, hr, hg]
   rw [fstB_at hlt]
   (first | refine ifL_cases (fun h => ?_) (fun h => ?_) | refine gI_cases' (fun h => ?_) (fun h => ?_) | refine gI_cases (fun h => ?_) (fun h => ?_) | refine dI_cases' (fun h => ?_) (fun h => ?_) | refine dI_cases (fun h => ?_) (fun h => ?_)) <;> first | replace h := of_decide_eq_true h | replace h := of_decide_eq_false h | skip
   · simp [hg, hr, h]
   · simp [hg, h]
     try simp (disch := omega) only [wrap_id']
     refine (ih.out (i + 1) _ ?_ ?_ ?_).trans ?_
     · omega
     · omega
     · simp [hg]
     · rfl
 · have e : i = l.length := by omega
   subst e
   simp [hg, fstB]
 ) Tryz.f172 Tryz.results172 gl172)
theorem p146 (b b' : Bool) (l : List Val) (g : Val → Bool) (f : Nat) (cs : List PV) (hl : l.length ≤ 1048576) (hs : sgOf f = ⟨[], .d, false⟩) (hf : ∀ v ∈ l, ∀ b1 b2 b3 : Bool, phi C0 (lim C0) f [.ag [(iv v.kind), (iv v.n), .pv b1 (.sl (nums .u8 v.s)), .pv b2 (.sl (rws byP v.k)), .pv b3 (.sl (rws vP v.l))], .pv b' (.pt cs)] [] = some ((bv (g v)), [])) : phi C0 (lim C0) 146 [.pv b (.sl (rws vP l)), .pv b' (.cl f [.pt cs])] [] = some ((bv (anyB g l)), []) := call0 Tryz.func146 (by kernel_rfl) ((show ∀ fn : Func, fn.results = #[.tmp 4] → lim C0 146 fn [.c (code Tryz.f146)] ⟨_, _⟩ = _ from fun fn hr => by
 have q := p172 b b' l g f cs hl hs hf
 simp [code, Tryz.f146, hr, q, fstB_any]
 ) Tryz.f146 Tryz.results146)
theorem p147 (v : Val) (b1 b2 b3 b : Bool) (left : Int) (h0 : 0 ≤ left) (h1 : left ≤ 5) (hl : left ≠ 0) (ih : ∀ b1 b2 b3 : Bool, phi C0 (lim C0) 112 [.ag [(iv v.kind), (iv v.n), .pv b1 (.sl (nums .u8 v.s)), .pv b2 (.sl (rws byP v.k)), .pv b3 (.sl (rws vP v.l))], (iv (left - 1))] [] = some ((bv (shV v (left - 1))), [])) : phi C0 (lim C0) 147 [.ag [(iv v.kind), (iv v.n), .pv b1 (.sl (nums .u8 v.s)), .pv b2 (.sl (rws byP v.k)), .pv b3 (.sl (rws vP v.l))], .pv b (.pt [.sc (.int .i64 left)])] [] = some ((bv (!shV v (left - 1))), []) := call0 Tryz.func147 (by kernel_rfl) ((show ∀ fn : Func, fn.results = #[.tmp 3] → lim C0 147 fn [.c (code Tryz.f147)] ⟨_, _⟩ = _ from fun fn hr => by
 have hw : IntKind.i64.wrap (left - 1) = left - 1 := wrap_id' (by omega)
 simp [code, Tryz.f147, hr, hw, ih]
 ) Tryz.f147 Tryz.results147)
theorem ascB_at {k : List (List Int)} {i : Nat} (h : i < k.length) : ascB (if i = 0 then none else k[i-1]?) (k.drop i) = (nameB k[i] && (if hi : i = 0 then true else decide (cmpB (k[i-1]'(by omega)) k[i] < 0)) && ascB (some k[i]) (k.drop (i + 1))) := by
 rw [drop_at h]
 by_cases hi : i = 0
 · subst hi; simp [ascB]
 · rw [if_neg hi, dif_neg hi, List.getElem?_eq_getElem (by omega)]
   rfl
theorem shVs_any (l : List Val) (left : Int) : shVs l left = !anyB (fun x => !shV x left) l := by
 induction l with
 | nil => rfl
 | cons v l ih => simp [shVs, anyB, ih]
theorem shV_eq (v : Val) (left : Int) : shV v left = if left = 0 then false else
    if v.kind = 0 ∨ v.kind = 6 then decide (v.n = 0) && decide (v.s = []) && decide (v.k = []) && decide (v.l = []) else
    if v.kind = 1 then inI v.n 0 1 && decide (v.s = []) && decide (v.k = []) && decide (v.l = []) else
    if v.kind = 2 then inI v.n (-1000000000000) 1000000000000 && decide (v.s = []) && decide (v.k = []) && decide (v.l = []) else
    if v.kind = 3 then textB v.s && decide (v.n = 0) && decide (v.k = []) && decide (v.l = []) else
    if v.kind = 4 then decide (v.k = []) && (decide (v.n = 0) && decide (v.s = []) && decide (v.l.length ≤ 40) && !anyB (fun x => !shV x (left - 1)) v.l) else
    if v.kind = 5 then decide (v.k.length = v.l.length) && ascB none v.k && (decide (v.n = 0) && decide (v.s = []) && decide (v.l.length ≤ 40) && !anyB (fun x => !shV x (left - 1)) v.l) else false := by
 cases v with
 | mk kind n s k l =>
  rw [shV, shVs_any]
  have e : l.isEmpty = decide (l = []) := by cases l <;> rfl
  rw [e]
  rfl
theorem p112 (v : Val) (hv : lenB v.s ∧ lenBB v.k ∧ v.l.length ≤ 1048576) (hk : ∀ x ∈ v.k, byteOk x = true) (b1 b2 b3 : Bool) (left : Int) (h0 : 0 ≤ left) (h1 : left ≤ 5) (ih : ∀ u ∈ v.l, ∀ (b1 b2 b3 : Bool) (left : Int), 0 ≤ left → left ≤ 5 → phi C0 (lim C0) 112 [.ag [(iv u.kind), (iv u.n), .pv b1 (.sl (nums .u8 u.s)), .pv b2 (.sl (rws byP u.k)), .pv b3 (.sl (rws vP u.l))], (iv left)] [] = some ((bv (shV u left)), [])) : phi C0 (lim C0) 112 [.ag [(iv v.kind), (iv v.n), .pv b1 (.sl (nums .u8 v.s)), .pv b2 (.sl (rws byP v.k)), .pv b3 (.sl (rws vP v.l))], (iv left)] [] = some ((bv (shV v left)), []) := call0 Tryz.func112 (by kernel_rfl) ((show ∀ fn : Func, fn.results = #[.tmp 4] → globs fn = [1, 0, 3, 12, 2, 29, 30, 8, 7, 6, 5, 43, 57, 71, 85, 88, 89, 97, 101, 100, 102, 99, 10, 9, 123, 4] → lim C0 112 fn [.c (code Tryz.f112)] ⟨_, _⟩ = _ from fun fn hr hg => by
 have hp3 := plan112_3
 simp [opsOf, code, Tryz.f112] at hp3
 have q1 := fun b => p144 b v.s hv.1
 have q2 := fun b b' hl => p146 b b' v.l (fun x => !shV x (left - 1)) 147 [.sc (.int .i64 left)] hv.2.2 rfl (fun u hu b1 b2 b3 => p147 u b1 b2 b3 b' left h0 h1 hl (fun b1 b2 b3 => ih u hu b1 b2 b3 (left - 1) (by omega) (by omega)))
 rw [shV_eq]
 simp [code, Tryz.f112, hr, hg, hp3]
 (first | refine ifL_cases (fun h => ?_) (fun h => ?_) | refine gI_cases' (fun h => ?_) (fun h => ?_) | refine gI_cases (fun h => ?_) (fun h => ?_) | refine dI_cases' (fun h => ?_) (fun h => ?_) | refine dI_cases (fun h => ?_) (fun h => ?_)) <;> first | replace h := of_decide_eq_true h | replace h := of_decide_eq_false h | skip
 · simp [hg, hr, h]
 have hl := h
 have q2 := fun b b' => q2 b b' hl
 have q3 := p66
 simp [hg, h, hr, hg, hp3]
 repeat' ((first | refine ifL_cases (fun h => ?_) (fun h => ?_) | refine gI_cases' (fun h => ?_) (fun h => ?_) | refine gI_cases (fun h => ?_) (fun h => ?_) | refine dI_cases' (fun h => ?_) (fun h => ?_) | refine dI_cases (fun h => ?_) (fun h => ?_)) <;> first | replace h := of_decide_eq_true h | replace h := of_decide_eq_false h | skip
          all_goals try simp [hr, hg, hp3, q1, q2, q3, *])
 all_goals try grind
 rename_i hkl
 refine (loop_to (s0 := ?s2) (fun i => v.l.length - i) (fun i => [(101, (iv ((i : Nat))))]) (fun i => [(16, .box [(iv 5), (iv v.n), .pv b1 (.sl (nums .u8 v.s)), .pv b2 (.sl (rws byP v.k)), .pv b3 (.sl (rws vP v.l))]), (18, .box [(iv left)])]) (fun i K => (if ascB (if i = 0 then none else v.k[i-1]?) (v.k.drop i) then K [(101, (iv v.l.length))] [(16, .box [(iv 5), (iv v.n), .pv b1 (.sl (nums .u8 v.s)), .pv b2 (.sl (rws byP v.k)), .pv b3 (.sl (rws vP v.l))]), (18, .box [(iv left)])] else some ((bv false), []))) (fun i => i ≤ v.l.length) 0 ?hc2 ?h02 ?hs2 ?step2).trans ?r2
 case hc2 => simp; rfl
 case h02 => first | (simp; done) | (simp [*]; done) | exact ⟨by simp, ⟨rfl⟩⟩ | grind | (simp; omega)
 case hs2 => first | (simp; done) | (simp [*]; done)
 case r2 =>
  by_cases ha : ascB none v.k = true
  · simp [hg, ha, hr, hg, hp3, hr]
    repeat' ((first | refine ifL_cases (fun h => ?_) (fun h => ?_) | refine gI_cases' (fun h => ?_) (fun h => ?_) | refine gI_cases (fun h => ?_) (fun h => ?_) | refine dI_cases' (fun h => ?_) (fun h => ?_) | refine dI_cases (fun h => ?_) (fun h => ?_)) <;> first | replace h := of_decide_eq_true h | replace h := of_decide_eq_false h | skip
             all_goals try simp [hr, hg, hp3, q1, q2, q3, hr, *])
    all_goals grind
  · simp [hg, hr, ha]
 intro k i hi ih
 simp [hg]
 (first | refine ifL_cases (fun h => ?_) (fun h => ?_) | refine gI_cases' (fun h => ?_) (fun h => ?_) | refine gI_cases (fun h => ?_) (fun h => ?_) | refine dI_cases' (fun h => ?_) (fun h => ?_) | refine dI_cases (fun h => ?_) (fun h => ?_)) <;> first | replace h := of_decide_eq_true h | replace h := of_decide_eq_false h | skip
 · have hlt : i < v.l.length := h
   have hlk : i < v.k.length := by omega
   have q4 := fun b => p107 b v.k[i] (by have : v.k[i].length ≤ 1048576 := hv.2.1.2 _ (List.getElem_mem hlk); omega)
   have ea := ascB_at hlk
   have eg : v.k[i]? = some v.k[i] := List.getElem?_eq_getElem hlk
   by_cases hi0 : i = 0
   · subst hi0
     simp at ea
     simp [hr, hg, hp3, hlk, byP, q4, ea]
     repeat' ((first | refine ifL_cases (fun h => ?_) (fun h => ?_) | refine gI_cases' (fun h => ?_) (fun h => ?_) | refine gI_cases (fun h => ?_) (fun h => ?_) | refine dI_cases' (fun h => ?_) (fun h => ?_) | refine dI_cases (fun h => ?_) (fun h => ?_)) <;> first | replace h := of_decide_eq_true h | replace h := of_decide_eq_false h | skip
              all_goals try simp [hr, hg, hp3, hlk, byP, hr, *])
     all_goals try simp [hg, hr]
     refine (ih.out 1 _ ?_ ?_ ?_).trans ?_
     · omega
     · omega
     · simp [hg, *]
     · simp [hg, List.getElem?_eq_getElem hlk]
   · obtain ⟨j, hj⟩ : ∃ j, j + 1 = i := ⟨i - 1, by omega⟩
     have hij : i - 1 = j := by omega
     have hlj : j < v.k.length := by omega
     have q5 := fun b b' => p145 b b' v.k[j] v.k[i] (hk _ (List.getElem_mem _)) (hk _ (List.getElem_mem _))
     have hw : IntKind.i64.wrap ((i : Int) - 1) = (j : Int) := by rw [show (i : Int) - 1 = j by omega]; exact wrap_id' (by omega)
     simp only [hij, hi0, if_false, dite_false, List.getElem?_eq_getElem hlj] at ea
     have e3 : 0 < i := by omega
     have hlj2 : j < v.l.length := by omega
     have hw2 : IntKind.i64.wrap ((i : Int) + 1) = i + 1 := wrap_id' (by omega)
     simp only [hi0, if_false, hij, List.getElem?_eq_getElem hlj]
     simp [hr, hg, hp3, hlk, byP, q4, ea]
     repeat' ((first | refine ifL_cases (fun h => ?_) (fun h => ?_) | refine gI_cases' (fun h => ?_) (fun h => ?_) | refine gI_cases (fun h => ?_) (fun h => ?_) | refine dI_cases' (fun h => ?_) (fun h => ?_) | refine dI_cases (fun h => ?_) (fun h => ?_)) <;> first | replace h := of_decide_eq_true h | replace h := of_decide_eq_false h | skip
              all_goals try simp [hr, hg, hp3, hlk, byP, hr, hlj, q5, hw, e3, *])
     all_goals try simp [hg, hr]
     · intro h9; exfalso; omega
     refine (ih.out (i + 1) _ ?_ ?_ ?_).trans ?_
     · omega
     · omega
     · simp [hg, *]
     · have h10 : cmpB v.k[j] v.k[i] < 0 := by omega
       simp [hg, List.getElem?_eq_getElem hlk, h10]
 · have e : i = v.l.length := by omega
   subst e
   have e2 : v.k.drop v.l.length = [] := drop_end (by omega)
   simp [hg, e2, ascB]
 ) Tryz.f112 Tryz.results112 gl112)
def VBy : Val → Prop := VAll fun v => byteOk v.s = true ∧ ∀ x ∈ v.k, byteOk x = true
theorem pShaped (v : Val) (hv : VLen v) (hb : VBy v) : ∀ (b1 b2 b3 : Bool) (left : Int), 0 ≤ left → left ≤ 5 → phi C0 (lim C0) 112 [.ag [(iv v.kind), (iv v.n), .pv b1 (.sl (nums .u8 v.s)), .pv b2 (.sl (rws byP v.k)), .pv b3 (.sl (rws vP v.l))], (iv left)] [] = some ((bv (shV v left)), []) := by
 revert hv hb
 refine Val.ind1 (P := fun v => VLen v → VBy v → ∀ (b1 b2 b3 : Bool) (left : Int), 0 ≤ left → left ≤ 5 → phi C0 (lim C0) 112 [.ag [(iv v.kind), (iv v.n), .pv b1 (.sl (nums .u8 v.s)), .pv b2 (.sl (rws byP v.k)), .pv b3 (.sl (rws vP v.l))], (iv left)] [] = some ((bv (shV v left)), [])) (fun v ih hv hb b1 b2 b3 left h0 h1 => ?_) v
 exact p112 v hv.here hb.here.2 b1 b2 b3 left h0 h1 fun u hu => ih u hu (hv.sub u hu) (hb.sub u hu)
theorem p113 (v : Val) (hv : v.l.length ≤ 1048576) (hp : ptV v ≤ 4611686018427387904) (b1 b2 b3 : Bool) (ih0 : ∀ u ∈ v.l, ∀ b1 b2 b3 : Bool, phi C0 (lim C0) 113 [.ag [(iv u.kind), (iv u.n), .pv b1 (.sl (nums .u8 u.s)), .pv b2 (.sl (rws byP u.k)), .pv b3 (.sl (rws vP u.l))]] [] = some ((iv ((ptV u : Nat))), [])) : phi C0 (lim C0) 113 [.ag [(iv v.kind), (iv v.n), .pv b1 (.sl (nums .u8 v.s)), .pv b2 (.sl (rws byP v.k)), .pv b3 (.sl (rws vP v.l))]] [] = some ((iv ((ptV v : Nat))), []) := call0 Tryz.func113 (by kernel_rfl) ((show ∀ fn : Func, fn.results = #[.tmp 2] → globs fn = [0, 1, 9, 8, 10, 7, 5, 3, 2] → lim C0 113 fn [.c (code Tryz.f113)] ⟨_, _⟩ = _ from fun fn hr hg => by
 rw [ptV_eq] at hp ⊢
 simp [code, Tryz.f113, hr, hg]
 refine (loop_to (s0 := ?s3) (fun i => v.l.length - i) (fun i => [(3, (iv ((1 + ptVs (v.l.take i) : Nat)))), (9, (iv ((i : Nat))))]) (fun i => [(16, .box [(iv v.kind), (iv v.n), .pv b1 (.sl (nums .u8 v.s)), .pv b2 (.sl (rws byP v.k)), .pv b3 (.sl (rws vP v.l))])]) (fun i K => K [(3, (iv ((1 + ptVs v.l : Nat)))), (9, (iv v.l.length))] [(16, .box [(iv v.kind), (iv v.n), .pv b1 (.sl (nums .u8 v.s)), .pv b2 (.sl (rws byP v.k)), .pv b3 (.sl (rws vP v.l))])]) (fun i => i ≤ v.l.length) 0 ?hc3 ?h03 ?hs3 ?step3).trans ?r3
 case hc3 => simp; rfl
 case h03 => first | (simp; done) | (simp [*]; done) | exact ⟨by simp, ⟨rfl⟩⟩ | grind | (simp; omega)
 case hs3 => first | (simp; done) | (simp [*]; done)
 case r3 => simp [hg, hr]
 intro k i hi ih
 simp [hg]
 (first | refine ifL_cases (fun h => ?_) (fun h => ?_) | refine gI_cases' (fun h => ?_) (fun h => ?_) | refine gI_cases (fun h => ?_) (fun h => ?_) | refine dI_cases' (fun h => ?_) (fun h => ?_) | refine dI_cases (fun h => ?_) (fun h => ?_)) <;> first | replace h := of_decide_eq_true h | replace h := of_decide_eq_false h | skip
 · have hlt := h
   have q := ih0 v.l[i] (List.getElem_mem hlt)
   have h1 := ptVs_take hlt
   have h2 := ptVs_take_le v.l (i + 1)
   simp [hg, hlt, q, hr, hg]
   try simp (disch := omega) only [wrap_id']
   refine (ih.out (i + 1) _ ?_ ?_ ?_).trans ?_
   · omega
   · omega
   · simp [hg, h1]; omega
   · rfl
 · have e : i = v.l.length := by omega
   subst e
   simp [hg]
 ) Tryz.f113 Tryz.results113 gl113)
theorem pParts (v : Val) (hv : VLen v) (hp : ptV v ≤ 4611686018427387904) : ∀ (b1 b2 b3 : Bool), phi C0 (lim C0) 113 [.ag [(iv v.kind), (iv v.n), .pv b1 (.sl (nums .u8 v.s)), .pv b2 (.sl (rws byP v.k)), .pv b3 (.sl (rws vP v.l))]] [] = some ((iv ((ptV v : Nat))), []) := by
 revert hv hp
 refine Val.ind1 (P := fun v => VLen v → ptV v ≤ 4611686018427387904 → ∀ (b1 b2 b3 : Bool), phi C0 (lim C0) 113 [.ag [(iv v.kind), (iv v.n), .pv b1 (.sl (nums .u8 v.s)), .pv b2 (.sl (rws byP v.k)), .pv b3 (.sl (rws vP v.l))]] [] = some ((iv ((ptV v : Nat))), [])) (fun v ih hv hp b1 b2 b3 => ?_) v
 exact p113 v hv.here.2.2 hp b1 b2 b3 fun u hu => ih u hu (hv.sub u hu) (by have := ptVs_mem hu; have := ptV_eq v; omega)
def valB (v : Val) : Bool := shV v 5 && decide (ptV v ≤ 40)
theorem p69 (v : Val) (hv : VLen v) (hb : VBy v) (hp : ptV v ≤ 4611686018427387904) (b1 b2 b3 : Bool) : phi C0 (lim C0) 69 [.ag [(iv v.kind), (iv v.n), .pv b1 (.sl (nums .u8 v.s)), .pv b2 (.sl (rws byP v.k)), .pv b3 (.sl (rws vP v.l))]] [] = some ((bv (valB v)), []) := call0 Tryz.func69 (by kernel_rfl) ((show ∀ fn : Func, fn.results = #[.tmp 2] → lim C0 69 fn [.c (code Tryz.f69)] ⟨_, _⟩ = _ from fun fn hr => by
 have q1 := fun b1 b2 b3 => pShaped v hv hb b1 b2 b3 5 (by omega) (by omega)
 have q2 := pParts v hv hp
 simp [code, Tryz.f69, hr, q1]
 repeat' ((first | refine ifL_cases (fun h => ?_) (fun h => ?_) | refine gI_cases' (fun h => ?_) (fun h => ?_) | refine gI_cases (fun h => ?_) (fun h => ?_) | refine dI_cases' (fun h => ?_) (fun h => ?_) | refine dI_cases (fun h => ?_) (fun h => ?_)) <;> first | replace h := of_decide_eq_true h | replace h := of_decide_eq_false h | skip
          all_goals try simp [hr, q1, q2, hr, *])
 all_goals simp_all [valB, hr]
 all_goals omega
 ) Tryz.f69 Tryz.results69)
end Go.Proofs.YtgbfmdihmnpcdaaGreatDoor
