/- Marks over plans; how many there are. -/
import Derived.Test.YtgbfmdihmnpcdaaGreatDoorU1
import Derived.Test.YtgbfmdihmnpcdaaGreatDoorV10
namespace Go.Proofs.YtgbfmdihmnpcdaaGreatDoor
open Go Go.Pm Go.Proofs
set_option linter.unusedVariables false
set_option linter.unusedSimpArgs false
set_option maxRecDepth 100000
set_option maxHeartbeats 4000000
/-! ### how many -/
theorem szL_eq {n : Nat} {left : Int} (h : ¬ szL n left < 0) : szL n left = left - n := by
  unfold szL at *
  split at h
  · omega
  · rename_i h2; rw [if_neg h2]
theorem szBs_mk : ∀ {l : List (List Int)} {left : Int}, 0 ≤ left → ¬ szBs l left < 0 → (mkBs l : Int) ≤ left - szBs l left
  | [], left, h, _ => by simp [szBs]
  | b :: l, left, h, hs => by
    have h1 := szL_le b.length left h
    rw [szBs] at hs ⊢
    split at hs
    · omega
    · rename_i h3
      rw [if_neg h3]
      have h4 := szL_ok h3
      have ih := szBs_mk (l := l) (left := szL b.length left) (by omega) hs
      have e : szL b.length left = left - b.length := szL_eq h3
      simp only [mkBs]
      omega
theorem szBB_mk {k : List (List Int)} {left : Int} (h : 0 ≤ left) (hs : ¬ szBB k left < 0) : (mkBs k : Int) ≤ left - szBB k left := by
  have h1 := szL_le k.length left h
  unfold szBB at *
  split at hs
  · omega
  · rename_i h3
    rw [if_neg h3]
    have ih := szBs_mk (l := k) (left := szL k.length left) (by omega) hs
    omega
theorem szV_mk : ∀ (v : Val) (left : Int), 0 ≤ left → ¬ szV v left < 0 → (mkV v : Int) ≤ 2 + 3 * (left - szV v left) := by
  have key : ∀ (l : List Val), (∀ u ∈ l, ∀ left : Int, 0 ≤ left → ¬ szV u left < 0 → (mkV u : Int) ≤ 2 + 3 * (left - szV u left)) → ∀ left : Int, 0 ≤ left → ¬ szVs l left < 0 → (mkVs l : Int) ≤ 2 * l.length + 3 * (left - szVs l left) := by
    intro l
    induction l with
    | nil => intro _ left _ _; simp [szVs]
    | cons v l ih =>
      intro hu left h hs
      have h1 := szV_le v left h
      rw [szVs] at hs ⊢
      split at hs
      · omega
      · rename_i h3
        rw [if_neg h3]
        have a := hu v (List.mem_cons_self ..) left h h3
        have b := ih (fun u h => hu u (List.mem_cons_of_mem _ h)) (szV v left) (by omega) hs
        simp only [mkVs, List.length_cons]
        omega
  refine Val.ind1 fun v ih left h hs => ?_
  have h1 := szL_le v.s.length left h
  rw [szV_eq] at hs ⊢
  rw [mkV_eq]
  split at hs
  · omega
  rename_i a1
  rw [if_neg a1]
  have e1 : szL v.s.length left = left - v.s.length := szL_eq a1
  have h2 := szBB_le v.k (szL v.s.length left) (by omega)
  split at hs
  · omega
  rename_i a2
  rw [if_neg a2]
  have b2 := szBB_mk (k := v.k) (left := szL v.s.length left) (by omega) a2
  have h3 := szL_le v.l.length (szBB v.k (szL v.s.length left)) (by omega)
  unfold szVV at hs ⊢
  split at hs
  · omega
  rename_i a3
  rw [if_neg a3]
  have e3 : szL v.l.length (szBB v.k (szL v.s.length left)) = szBB v.k (szL v.s.length left) - v.l.length := szL_eq a3
  have b3 := key v.l ih _ (by omega) hs
  omega
/-! ### acts -/
def mkA (a : Act) : Nat := 4 + a.addr.length + a.val.s.length + mkBs a.val.k + mkVs a.val.l + mkBs a.deps
def mkAs : List Act → Nat
  | [] => 0
  | a :: l => mkA a + mkAs l
@[simp] theorem mkAs_nil : mkAs [] = 0 := rfl
theorem mkAs_app : ∀ (l m : List Act), mkAs (l ++ m) = mkAs l + mkAs m
  | [], m => by simp [mkAs]
  | b :: l, m => by simp [mkAs, mkAs_app l m]; omega
theorem mkAs_at {l : List Act} {i : Nat} (h : i < l.length) : mkAs (l.take (i + 1)) = mkAs (l.take i) + mkA l[i] := by
  rw [List.take_succ_eq_append_getElem h, mkAs_app]; simp [mkAs]
theorem mkAs_le (l : List Act) (i : Nat) : mkAs (l.take i) ≤ mkAs l := by
  have := mkAs_app (l.take i) (l.drop i)
  rw [List.take_append_drop] at this
  omega
theorem szA_mk {a : Act} {left : Int} (h : 0 ≤ left) (hs : ¬ szA a left < 0) : (mkA a : Int) ≤ 4 + 3 * (left - szA a left) := by
  have h1 := szL_le a.addr.length left h
  unfold szA at hs ⊢
  split at hs
  · omega
  rename_i a1
  rw [if_neg a1]
  have e1 : szL a.addr.length left = left - a.addr.length := szL_eq a1
  have h2 := szV_le a.val (szL a.addr.length left) (by omega)
  split at hs
  · omega
  rename_i a2
  rw [if_neg a2]
  have b2 := szV_mk a.val _ (by omega) a2
  have b3 := szBB_mk (k := a.deps) (left := szV a.val (szL a.addr.length left)) (by omega) hs
  have e4 := mkV_eq a.val
  unfold mkA
  omega
theorem szAs_mk : ∀ {l : List Act} {left : Int}, 0 ≤ left → ¬ szAs l left < 0 → (mkAs l : Int) ≤ 4 * l.length + 3 * (left - szAs l left)
  | [], left, h, _ => by simp [szAs]
  | b :: l, left, h, hs => by
    have h1 := szA_le b left h
    rw [szAs] at hs ⊢
    split at hs
    · omega
    · rename_i h3
      rw [if_neg h3]
      have a := szA_mk h h3
      have ih := szAs_mk (l := l) (left := szA b left) (by omega) hs
      simp only [mkAs, List.length_cons]
      omega
theorem szAA_mk {l : List Act} {left : Int} (h : 0 ≤ left) (hs : ¬ szAA l left < 0) : (mkAs l : Int) ≤ 4 * (left - szAA l left) := by
  have h1 := szL_le l.length left h
  unfold szAA at *
  split at hs
  · omega
  · rename_i h3
    rw [if_neg h3]
    have e1 : szL l.length left = left - l.length := szL_eq h3
    have h2 := szAs_le l (szL l.length left) (by omega)
    have ih := szAs_mk (l := l) (left := szL l.length left) (by omega) hs
    omega
theorem p38 (l : List Act) (k : Int) (h0 : 0 ≤ k) (h1 : k + mkAs l ≤ 4611686018427387904) (h2 : ∀ a ∈ l, ALen a) (hl : l.length ≤ 1048576) : phi C0 (lim C0) 38 [.dv (some 0) (rws aP l), (.pv false (.sc (.int .i64 k)))] [(0, .dat false)] = some ((.pv false (.sc (.int .i64 (k + mkAs l)))), [(0, .dat false)]) := call0 Tryz.func38 (by kernel_rfl) ((show ∀ fn : Func, fn.results = #[.tmp 4] → globs fn = [0, 5, 9, 1, 4] → lim C0 38 fn [.c (code Tryz.f38)] ⟨_, _⟩ = _ from fun fn hr hg => by
  simp [code, Tryz.f38, hr, hg]
  refine (loop_to (s0 := ?s1) (fun i => l.length - i) (fun i => [(5, (.pv false (.sc (.int .i64 ((i : Nat)))))), (1, (.pv false (.sc (.int .i64 (k + (mkAs (l.take i) : Nat))))))]) (fun i => [(0, .dat false)]) (fun i K => K [(5, (.pv false (.sc (.int .i64 l.length)))), (1, (.pv false (.sc (.int .i64 (k + mkAs l)))))] [(0, .dat false)]) (fun i => i ≤ l.length) 0 ?hc1 ?h01 ?hs1 ?step1).trans ?r1
  case hc1 => simp; rfl
  case h01 => first | (simp; done) | (simp [*]; done) | exact ⟨by simp, ⟨rfl⟩⟩ | grind | (simp; omega)
  case hs1 => first | (simp; done) | (simp [*]; done)
  case r1 => simp [hg, hr]
  intro n i hi ih
  simp [hg]
  (first | refine ifL_cases (fun h => ?_) (fun h => ?_) | refine gI_cases' (fun h => ?_) (fun h => ?_) | refine gI_cases (fun h => ?_) (fun h => ?_) | refine dI_cases' (fun h => ?_) (fun h => ?_) | refine dI_cases (fun h => ?_) (fun h => ?_)) <;> first | replace h := of_decide_eq_true h | replace h := of_decide_eq_false h | skip
  · have hlt := h
    have e1 := mkAs_at hlt
    have e2 := mkAs_le l (i + 1)
    have e3 : mkA l[i] = 4 + l[i].addr.length + l[i].val.s.length + mkBs l[i].val.k + mkVs l[i].val.l + mkBs l[i].deps := rfl
    have ha := h2 _ (List.getElem_mem hlt)
    have q1 := p13 l[i].addr (k + (mkAs (l.take i) : Nat) + 1) (by omega) (by omega)
    have q2 := p13 l[i].val.s (k + (mkAs (l.take i) : Nat) + 1 + l[i].addr.length + 1 + 1 + 1) (by omega) (by omega)
    have q3 := p75 l[i].val.k (k + (mkAs (l.take i) : Nat) + 1 + l[i].addr.length + 1 + 1 + 1 + l[i].val.s.length) (by omega) (by omega) (by have := ha.vl.here.2.1.1; omega)
    have q4 := pMarkV l[i].val ha.vl (k + (mkAs (l.take i) : Nat) + 1 + l[i].addr.length + 1 + 1 + 1 + l[i].val.s.length + mkBs l[i].val.k) (by omega) (by omega)
    have q5 := p75 l[i].deps (k + (mkAs (l.take i) : Nat) + 1 + l[i].addr.length + 1 + 1 + 1 + l[i].val.s.length + mkBs l[i].val.k + mkVs l[i].val.l) (by omega) (by omega) (by have := ha.dl.1; omega)
    simp [hg, hlt, hr, hg]
    try simp (disch := omega) only [wrap_id']
    simp [hg, hlt, q1]
    try simp (disch := omega) only [wrap_id']
    simp [hg, hlt, q2]
    try simp (disch := omega) only [wrap_id']
    simp [hg, hlt, q3]
    try simp (disch := omega) only [wrap_id']
    simp [hg, hlt, q4]
    try simp (disch := omega) only [wrap_id']
    simp [hg, hlt, q5]
    try simp (disch := omega) only [wrap_id']
    refine (ih.out (i + 1) _ ?_ ?_ ?_).trans ?_
    · omega
    · omega
    · simp [hg, e1, e3]; omega
    · rfl
  · have e : i = l.length := by omega
    subst e
    simp [hg]
  ) Tryz.f38 Tryz.results38 gl38)
theorem p12 (l : List Act) (same k : Int) (h0 : 0 ≤ k) (h1 : k + mkAs l ≤ 4611686018427387904) (h2 : ∀ a ∈ l, ALen a) (hl : l.length ≤ 1048576) : phi C0 (lim C0) 12 [.ag [.dv (some 0) (rws aP l), (.pv false (.sc (.int .i64 same)))], (.pv false (.sc (.int .i64 k)))] [(0, .dat false)] = some ((.pv false (.sc (.int .i64 (k + mkAs l)))), [(0, .dat false)]) := call0 Tryz.func12 (by kernel_rfl) ((show ∀ fn : Func, fn.results = #[.tmp 4] → lim C0 12 fn [.c (code Tryz.f12)] ⟨_, _⟩ = _ from fun fn hr => by
  have q := p38 l k h0 h1 h2 hl
  simp [code, Tryz.f12, hr, q]
  ) Tryz.f12 Tryz.results12)
end Go.Proofs.YtgbfmdihmnpcdaaGreatDoor
