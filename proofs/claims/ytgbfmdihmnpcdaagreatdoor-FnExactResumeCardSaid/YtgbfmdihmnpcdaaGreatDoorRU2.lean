/- Marks: what the laws write over a copy of an argument. -/
import Derived.Test.YtgbfmdihmnpcdaaGreatDoorV1
import Derived.Test.YtgbfmdihmnpcdaaGreatDoorV10
namespace Go.Proofs.YtgbfmdihmnpcdaaGreatDoor
open Go Go.Pm Go.Proofs
set_option linter.unusedVariables false
set_option linter.unusedSimpArgs false
set_option maxRecDepth 100000
set_option maxHeartbeats 4000000
theorem p13 (l : List Int) (k : Int) (h0 : 0 ≤ k) (h1 : k + l.length ≤ 4611686018427387904) : phi C0 (lim C0) 13 [.dv (some 0) (nums .u8 l), (iv k)] [(0, .dat false)] = some ((iv (k + l.length)), [(0, .dat false)]) := call0 Tryz.func13 (by kernel_rfl) ((show ∀ fn : Func, fn.results = #[.tmp 4] → globs fn = [0, 5, 9, 1, 4] → lim C0 13 fn [.c (code Tryz.f13)] ⟨_, _⟩ = _ from fun fn hr hg => by
 simp [code, Tryz.f13, hr, hg]
 refine (loop_to (s0 := ?s1) (fun i => l.length - i) (fun i => [(5, (iv ((i : Nat)))), (1, (iv (k + (i : Nat))))]) (fun i => [(0, .dat false)]) (fun i K => K [(5, (iv l.length)), (1, (iv (k + l.length)))] [(0, .dat false)]) (fun i => i ≤ l.length) 0 ?hc1 ?h01 ?hs1 ?step1).trans ?r1
 case hc1 => simp; rfl
 case h01 => first | (simp; done) | (simp [*]; done) | exact ⟨by simp, ⟨rfl⟩⟩ | grind | (simp; omega)
 case hs1 => first | (simp; done) | (simp [*]; done)
 case r1 => simp [hg, hr]
 intro n i hi ih
 simp [hg]
 (first | refine ifL_cases (fun h => ?_) (fun h => ?_) | refine gI_cases' (fun h => ?_) (fun h => ?_) | refine gI_cases (fun h => ?_) (fun h => ?_) | refine dI_cases' (fun h => ?_) (fun h => ?_) | refine dI_cases (fun h => ?_) (fun h => ?_)) <;> first | replace h := of_decide_eq_true h | replace h := of_decide_eq_false h | skip
 · have hlt := h
   simp [hg, hlt, hr, hg]
   try simp (disch := omega) only [wrap_id']
   refine (ih.out (i + 1) _ ?_ ?_ ?_).trans ?_
   · omega
   · omega
   · simp [hg]; omega
   · rfl
 · have e : i = l.length := by omega
   subst e
   simp [hg]
 ) Tryz.f13 Tryz.results13 gl13)
def mkBs : List (List Int) → Nat
 | [] => 0
 | b :: l => b.length + mkBs l
@[simp] theorem mkBs_nil : mkBs [] = 0 := rfl
theorem mkBs_app : ∀ (l m : List (List Int)), mkBs (l ++ m) = mkBs l + mkBs m
 | [], m => by simp [mkBs]
 | b :: l, m => by simp [mkBs, mkBs_app l m]; omega
theorem mkBs_at {l : List (List Int)} {i : Nat} (h : i < l.length) : mkBs (l.take (i + 1)) = mkBs (l.take i) + l[i].length := by
 rw [List.take_succ_eq_append_getElem h, mkBs_app]; simp [mkBs]
theorem mkBs_le (l : List (List Int)) (i : Nat) : mkBs (l.take i) ≤ mkBs l := by
 have := mkBs_app (l.take i) (l.drop i)
 rw [List.take_append_drop] at this
 omega
theorem p75 (l : List (List Int)) (k : Int) (h0 : 0 ≤ k) (h1 : k + mkBs l ≤ 4611686018427387904) (h2 : l.length ≤ 4611686018427387904) : phi C0 (lim C0) 75 [.dv (some 0) (rws byP l), (iv k)] [(0, .dat false)] = some ((iv (k + mkBs l)), [(0, .dat false)]) := call0 Tryz.func75 (by kernel_rfl) ((show ∀ fn : Func, fn.results = #[.tmp 4] → globs fn = [0, 5, 9, 1, 4] → lim C0 75 fn [.c (code Tryz.f75)] ⟨_, _⟩ = _ from fun fn hr hg => by
 simp [code, Tryz.f75, hr, hg]
 refine (loop_to (s0 := ?s2) (fun i => l.length - i) (fun i => [(5, (iv ((i : Nat)))), (1, (iv (k + (mkBs (l.take i) : Nat))))]) (fun i => [(0, .dat false)]) (fun i K => K [(5, (iv l.length)), (1, (iv (k + mkBs l)))] [(0, .dat false)]) (fun i => i ≤ l.length) 0 ?hc2 ?h02 ?hs2 ?step2).trans ?r2
 case hc2 => simp; rfl
 case h02 => first | (simp; done) | (simp [*]; done) | exact ⟨by simp, ⟨rfl⟩⟩ | grind | (simp; omega)
 case hs2 => first | (simp; done) | (simp [*]; done)
 case r2 => simp [hg, hr]
 intro n i hi ih
 simp [hg]
 (first | refine ifL_cases (fun h => ?_) (fun h => ?_) | refine gI_cases' (fun h => ?_) (fun h => ?_) | refine gI_cases (fun h => ?_) (fun h => ?_) | refine dI_cases' (fun h => ?_) (fun h => ?_) | refine dI_cases (fun h => ?_) (fun h => ?_)) <;> first | replace h := of_decide_eq_true h | replace h := of_decide_eq_false h | skip
 · have hlt := h
   have e1 := mkBs_at hlt
   have e2 := mkBs_le l (i + 1)
   have q := p13 l[i] (k + (mkBs (l.take i) : Nat)) (by omega) (by omega)
   simp [hg, hlt, byP, q, hr, hg]
   try simp (disch := omega) only [wrap_id']
   refine (ih.out (i + 1) _ ?_ ?_ ?_).trans ?_
   · omega
   · omega
   · simp [hg, e1]; omega
   · rfl
 · have e : i = l.length := by omega
   subst e
   simp [hg]
 ) Tryz.f75 Tryz.results75 gl75)
mutual
def mkV : Val → Nat
 | .mk _ _ s k l => 2 + s.length + mkBs k + mkVs l
def mkVs : List Val → Nat
 | [] => 0
 | v :: l => mkV v + mkVs l
end
@[simp] theorem mkVs_nil : mkVs [] = 0 := rfl
theorem mkV_eq (v : Val) : mkV v = 2 + v.s.length + mkBs v.k + mkVs v.l := by cases v; rw [mkV]; rfl
theorem mkVs_app : ∀ (l m : List Val), mkVs (l ++ m) = mkVs l + mkVs m
 | [], m => by simp [mkVs]
 | b :: l, m => by simp [mkVs, mkVs_app l m]; omega
theorem mkVs_at {l : List Val} {i : Nat} (h : i < l.length) : mkVs (l.take (i + 1)) = mkVs (l.take i) + mkV l[i] := by
 rw [List.take_succ_eq_append_getElem h, mkVs_app]; simp [mkVs]
theorem mkVs_le (l : List Val) (i : Nat) : mkVs (l.take i) ≤ mkVs l := by
 have := mkVs_app (l.take i) (l.drop i)
 rw [List.take_append_drop] at this
 omega
theorem mkVs_len : ∀ l : List Val, l.length ≤ mkVs l
 | [] => by simp [mkVs]
 | v :: l => by have := mkVs_len l; have := mkV_eq v; simp [mkVs]; omega
theorem p76 (l : List Val) (k : Int) (h0 : 0 ≤ k) (h1 : k + mkVs l ≤ 4611686018427387904) (h2 : ∀ u ∈ l, u.k.length ≤ 4611686018427387904) (ih0 : ∀ u ∈ l, ∀ k : Int, 0 ≤ k → k + mkVs u.l ≤ 4611686018427387904 → phi C0 (lim C0) 76 [.dv (some 0) (rws vP u.l), (iv k)] [(0, .dat false)] = some ((iv (k + mkVs u.l)), [(0, .dat false)])) : phi C0 (lim C0) 76 [.dv (some 0) (rws vP l), (iv k)] [(0, .dat false)] = some ((iv (k + mkVs l)), [(0, .dat false)]) := call0 Tryz.func76 (by kernel_rfl) ((show ∀ fn : Func, fn.results = #[.tmp 4] → globs fn = [0, 5, 9, 1, 4] → lim C0 76 fn [.c (code Tryz.f76)] ⟨_, _⟩ = _ from fun fn hr hg => by
 simp [code, Tryz.f76, hr, hg]
 have hl := mkVs_len l
 refine (loop_to (s0 := ?s3) (fun i => l.length - i) (fun i => [(5, (iv ((i : Nat)))), (1, (iv (k + (mkVs (l.take i) : Nat))))]) (fun i => [(0, .dat false)]) (fun i K => K [(5, (iv l.length)), (1, (iv (k + mkVs l)))] [(0, .dat false)]) (fun i => i ≤ l.length) 0 ?hc3 ?h03 ?hs3 ?step3).trans ?r3
 case hc3 => simp; rfl
 case h03 => first | (simp; done) | (simp [*]; done) | exact ⟨by simp, ⟨rfl⟩⟩ | grind | (simp; omega)
 case hs3 => first | (simp; done) | (simp [*]; done)
 case r3 => simp [hg, hr]
 intro n i hi ih
 simp [hg]
 (first | refine ifL_cases (fun h => ?_) (fun h => ?_) | refine gI_cases' (fun h => ?_) (fun h => ?_) | refine gI_cases (fun h => ?_) (fun h => ?_) | refine dI_cases' (fun h => ?_) (fun h => ?_) | refine dI_cases (fun h => ?_) (fun h => ?_)) <;> first | replace h := of_decide_eq_true h | replace h := of_decide_eq_false h | skip
 · have hlt := h
   have e1 := mkVs_at hlt
   have e2 := mkVs_le l (i + 1)
   have e3 := mkV_eq l[i]
   have q1 := p13 l[i].s (k + (mkVs (l.take i) : Nat) + 1 + 1) (by omega) (by omega)
   have q2 := p75 l[i].k (k + (mkVs (l.take i) : Nat) + 1 + 1 + l[i].s.length) (by omega) (by omega) (h2 _ (List.getElem_mem hlt))
   have q3 := ih0 l[i] (List.getElem_mem hlt) (k + (mkVs (l.take i) : Nat) + 1 + 1 + l[i].s.length + mkBs l[i].k) (by omega) (by omega)
   simp [hg, hlt, hr, hg]
   try simp (disch := omega) only [wrap_id']
   simp [hg, hlt, q1]
   try simp (disch := omega) only [wrap_id']
   simp [hg, hlt, q2]
   try simp (disch := omega) only [wrap_id']
   simp [hg, hlt, q3]
   try simp (disch := omega) only [wrap_id']
   refine (ih.out (i + 1) _ ?_ ?_ ?_).trans ?_
   · omega
   · omega
   · simp [hg, e1, e3]; omega
   · rfl
 · have e : i = l.length := by omega
   subst e
   simp [hg]
 ) Tryz.f76 Tryz.results76 gl76)
theorem pMarkV (v : Val) (hv : VLen v) : ∀ k : Int, 0 ≤ k → k + mkVs v.l ≤ 4611686018427387904 → phi C0 (lim C0) 76 [.dv (some 0) (rws vP v.l), (iv k)] [(0, .dat false)] = some ((iv (k + mkVs v.l)), [(0, .dat false)]) := by
 revert hv
 refine Val.ind1 (P := fun v => VLen v → ∀ k : Int, 0 ≤ k → k + mkVs v.l ≤ 4611686018427387904 → phi C0 (lim C0) 76 [.dv (some 0) (rws vP v.l), (iv k)] [(0, .dat false)] = some ((iv (k + mkVs v.l)), [(0, .dat false)])) (fun v ih hv k h0 h1 => ?_) v
 exact p76 v.l k h0 h1 (fun u hu => by have := (hv.sub u hu).here.2.1.1; omega) fun u hu => ih u hu (hv.sub u hu)
def mkL (n : Nat) (k : Int) : List Int := (List.range n).map fun i => IntKind.u8.wrap (k + (i : Nat))
@[simp] theorem mkL_len (n : Nat) (k : Int) : (mkL n k).length = n := by simp [mkL]
@[simp] theorem mkL_zero (k : Int) : mkL 0 k = [] := rfl
theorem mkL_succ (n : Nat) (k : Int) : mkL (n + 1) k = mkL n k ++ [IntKind.u8.wrap (k + (n : Nat))] := by simp [mkL, List.range_succ]
theorem mkL_at (n : Nat) (k : Int) (i : Nat) (h : i < (mkL n k).length) : (mkL n k)[i] = IntKind.u8.wrap (k + (i : Nat)) := by simp [mkL]
theorem mkL_set (l : List Int) (k : Int) (i : Nat) (h : i < l.length) : (mkL i k ++ l.drop i).set i (IntKind.u8.wrap (k + (i : Nat))) = mkL (i + 1) k ++ l.drop (i + 1) := by
 rw [List.set_append_right _ _ (by simp), mkL_succ, mkL_len, Nat.sub_self, drop_at h, List.append_assoc]
 rfl
theorem p77 (b : Bool) (n : Nat) (k : Int) (h0 : 0 ≤ k) (h1 : k + n ≤ 4611686018427387904) : phi C0 (lim C0) 77 [.pv b (.sl (nums .u8 (mkL n k))), (iv k)] [] = some ((iv (k + n)), []) := call0 Tryz.func77 (by kernel_rfl) ((show ∀ fn : Func, fn.results = #[.tmp 4] → globs fn = [0, 5, 9, 1, 18, 4] → lim C0 77 fn [.c (code Tryz.f77)] ⟨_, _⟩ = _ from fun fn hr hg => by
 simp [code, Tryz.f77, hr, hg]
 refine (loop_to (s0 := ?s5) (fun i => n - i) (fun i => [(5, (iv ((i : Nat)))), (1, (iv (k + (i : Nat))))]) (fun i => []) (fun i K => K [(5, (iv n)), (1, (iv (k + n)))] []) (fun i => i ≤ n) 0 ?hc5 ?h05 ?hs5 ?step5).trans ?r5
 case hc5 => simp; rfl
 case h05 => first | (simp; done) | (simp [*]; done) | exact ⟨by simp, ⟨rfl⟩⟩ | grind | (simp; omega)
 case hs5 => first | (simp; done) | (simp [*]; done)
 case r5 => simp [hg, hr]
 intro m i hi ih
 simp [hg]
 (first | refine ifL_cases (fun h => ?_) (fun h => ?_) | refine gI_cases' (fun h => ?_) (fun h => ?_) | refine gI_cases (fun h => ?_) (fun h => ?_) | refine dI_cases' (fun h => ?_) (fun h => ?_) | refine dI_cases (fun h => ?_) (fun h => ?_)) <;> first | replace h := of_decide_eq_true h | replace h := of_decide_eq_false h | skip
 · have hlt := h
   simp [hg, hlt, mkL_at, hr, hg]
   try simp (disch := omega) only [wrap_id']
   refine (ih.out (i + 1) _ ?_ ?_ ?_).trans ?_
   · omega
   · omega
   · simp [hg]; omega
   · rfl
 · have e : i = n := by omega
   subst e
   simp [hg]
 ) Tryz.f77 Tryz.results77 gl77)
end Go.Proofs.YtgbfmdihmnpcdaaGreatDoor
namespace Go.Proofs.YtgbfmdihmnpcdaaGreatDoor
open Go Go.Pm Go.Proofs
set_option linter.unusedVariables false
set_option linter.unusedSimpArgs false
set_option maxRecDepth 100000
set_option maxHeartbeats 4000000
theorem szL_eq {n : Nat} {left : Int} (h : ¬ szL n left < 0) : szL n left = left - n := by
 unfold szL at *
 split at h
 · omega
 · rename_i h2; rw [if_neg h2]
theorem szBs_mk : ∀ {l : List (List Int)} {left : Int}, 0 ≤ left → ¬ szBs l left < 0 → (mkBs l : Int) ≤ left - szBs l left
 | [], left, h, _ => by simp [szBs]
 | b :: l, left, h, hs => by
  have h1 := szL_le b.length left h
  rw [szBs] at hs ⊢
  split at hs
  · omega
  · rename_i h3
    rw [if_neg h3]
    have h4 := szL_ok h3
    have ih := szBs_mk (l := l) (left := szL b.length left) (by omega) hs
    have e : szL b.length left = left - b.length := szL_eq h3
    simp only [mkBs]
    omega
theorem szBB_mk {k : List (List Int)} {left : Int} (h : 0 ≤ left) (hs : ¬ szBB k left < 0) : (mkBs k : Int) ≤ left - szBB k left := by
 have h1 := szL_le k.length left h
 unfold szBB at *
 split at hs
 · omega
 · rename_i h3
   rw [if_neg h3]
   have ih := szBs_mk (l := k) (left := szL k.length left) (by omega) hs
   omega
theorem szV_mk : ∀ (v : Val) (left : Int), 0 ≤ left → ¬ szV v left < 0 → (mkV v : Int) ≤ 2 + 3 * (left - szV v left) := by
 have key : ∀ (l : List Val), (∀ u ∈ l, ∀ left : Int, 0 ≤ left → ¬ szV u left < 0 → (mkV u : Int) ≤ 2 + 3 * (left - szV u left)) → ∀ left : Int, 0 ≤ left → ¬ szVs l left < 0 → (mkVs l : Int) ≤ 2 * l.length + 3 * (left - szVs l left) := by
  intro l
  induction l with
  | nil => intro _ left _ _; simp [szVs]
  | cons v l ih =>
   intro hu left h hs
   have h1 := szV_le v left h
   rw [szVs] at hs ⊢
   split at hs
   · omega
   · rename_i h3
     rw [if_neg h3]
     have a := hu v (List.mem_cons_self ..) left h h3
     have b := ih (fun u h => hu u (List.mem_cons_of_mem _ h)) (szV v left) (by omega) hs
     simp only [mkVs, List.length_cons]
     omega
 refine Val.ind1 fun v ih left h hs => ?_
 have h1 := szL_le v.s.length left h
 rw [szV_eq] at hs ⊢
 rw [mkV_eq]
 split at hs
 · omega
 rename_i a1
 rw [if_neg a1]
 have e1 : szL v.s.length left = left - v.s.length := szL_eq a1
 have h2 := szBB_le v.k (szL v.s.length left) (by omega)
 split at hs
 · omega
 rename_i a2
 rw [if_neg a2]
 have b2 := szBB_mk (k := v.k) (left := szL v.s.length left) (by omega) a2
 have h3 := szL_le v.l.length (szBB v.k (szL v.s.length left)) (by omega)
 unfold szVV at hs ⊢
 split at hs
 · omega
 rename_i a3
 rw [if_neg a3]
 have e3 : szL v.l.length (szBB v.k (szL v.s.length left)) = szBB v.k (szL v.s.length left) - v.l.length := szL_eq a3
 have b3 := key v.l ih _ (by omega) hs
 omega
def mkA (a : Act) : Nat := 4 + a.addr.length + a.val.s.length + mkBs a.val.k + mkVs a.val.l + mkBs a.deps
def mkAs : List Act → Nat
 | [] => 0
 | a :: l => mkA a + mkAs l
@[simp] theorem mkAs_nil : mkAs [] = 0 := rfl
theorem mkAs_app : ∀ (l m : List Act), mkAs (l ++ m) = mkAs l + mkAs m
 | [], m => by simp [mkAs]
 | b :: l, m => by simp [mkAs, mkAs_app l m]; omega
theorem mkAs_at {l : List Act} {i : Nat} (h : i < l.length) : mkAs (l.take (i + 1)) = mkAs (l.take i) + mkA l[i] := by
 rw [List.take_succ_eq_append_getElem h, mkAs_app]; simp [mkAs]
theorem mkAs_le (l : List Act) (i : Nat) : mkAs (l.take i) ≤ mkAs l := by
 have := mkAs_app (l.take i) (l.drop i)
 rw [List.take_append_drop] at this
 omega
theorem szA_mk {a : Act} {left : Int} (h : 0 ≤ left) (hs : ¬ szA a left < 0) : (mkA a : Int) ≤ 4 + 3 * (left - szA a left) := by
 have h1 := szL_le a.addr.length left h
 unfold szA at hs ⊢
 split at hs
 · omega
 rename_i a1
 rw [if_neg a1]
 have e1 : szL a.addr.length left = left - a.addr.length := szL_eq a1
 have h2 := szV_le a.val (szL a.addr.length left) (by omega)
 split at hs
 · omega
 rename_i a2
 rw [if_neg a2]
 have b2 := szV_mk a.val _ (by omega) a2
 have b3 := szBB_mk (k := a.deps) (left := szV a.val (szL a.addr.length left)) (by omega) hs
 have e4 := mkV_eq a.val
 unfold mkA
 omega
theorem szAs_mk : ∀ {l : List Act} {left : Int}, 0 ≤ left → ¬ szAs l left < 0 → (mkAs l : Int) ≤ 4 * l.length + 3 * (left - szAs l left)
 | [], left, h, _ => by simp [szAs]
 | b :: l, left, h, hs => by
  have h1 := szA_le b left h
  rw [szAs] at hs ⊢
  split at hs
  · omega
  · rename_i h3
    rw [if_neg h3]
    have a := szA_mk h h3
    have ih := szAs_mk (l := l) (left := szA b left) (by omega) hs
    simp only [mkAs, List.length_cons]
    omega
theorem szAA_mk {l : List Act} {left : Int} (h : 0 ≤ left) (hs : ¬ szAA l left < 0) : (mkAs l : Int) ≤ 4 * (left - szAA l left) := by
 have h1 := szL_le l.length left h
 unfold szAA at *
 split at hs
 · omega
 · rename_i h3
   rw [if_neg h3]
   have e1 : szL l.length left = left - l.length := szL_eq h3
   have h2 := szAs_le l (szL l.length left) (by omega)
   have ih := szAs_mk (l := l) (left := szL l.length left) (by omega) hs
   omega
end Go.Proofs.YtgbfmdihmnpcdaaGreatDoor
