/- Only, by the reference; the law, walked. -/
import Derived.Test.YtgbfmdihmnpcdaaGreatDoorO3
import Derived.Test.YtgbfmdihmnpcdaaGreatDoorO4
import Derived.Test.YtgbfmdihmnpcdaaGreatDoorO5
import Derived.Test.YtgbfmdihmnpcdaaGreatDoorO6
import Derived.Test.YtgbfmdihmnpcdaaGreatDoorOV11
namespace Go.Proofs.YtgbfmdihmnpcdaaGreatDoor
open Go Go.Pm Go.Proofs
set_option linter.unusedVariables false
set_option linter.unusedSimpArgs false
set_option maxRecDepth 100000
set_option maxHeartbeats 4000000
theorem eqA_need {l : List Act} {t : Nat} (h : t < l.length) (o : Act) : anyB (fun d => eqA l t d) o.deps = needB l[t].addr o := by
  unfold needB
  congr 1
  funext d
  rw [eqA_at h]
  simp [eq_comm]
theorem flK_congr {K K' : Nat → Bool} : ∀ {l : List Act} {m : Nat}, (∀ t, m ≤ t → K t = K' t) → flK K l m = flK K' l m
  | [], _, _ => rfl
  | a :: l, m, h => by
    have ih := flK_congr (l := l) (m := m + 1) fun t ht => h t (by omega)
    simp only [flK, h m (Nat.le_refl _), ih]
theorem kp_only (l : List Act) (x : List Int) : ∀ d, d ≤ l.length → (∀ t (h : t < l.length - d), kp l x d t = anyB (needB (l[t]'(by omega)).addr) (onlyL x (l.drop (l.length - d)))) ∧ flK (kp l x d) (l.drop (l.length - d)) (l.length - d) = onlyL x (l.drop (l.length - d))
  | 0, _ => by simp [kp, flK, anyB]
  | d + 1, hd => by
    obtain ⟨ih1, ih2⟩ := kp_only l x d (by omega)
    obtain ⟨i, hi⟩ : ∃ i, i = l.length - (d + 1) := ⟨_, rfl⟩
    have hm : l.length - d = i + 1 := by omega
    have hlt : i < l.length := by omega
    have hkp : kp l x (d + 1) = stepK l x i (kp l x d) := by rw [hi]; rfl
    simp only [← hi]
    rw [hkp]
    simp only [hm] at ih1 ih2
    generalize kp l x d = K at *
    have hz : zK l x i K i = (anyB (needB l[i].addr) (onlyL x (l.drop (i + 1))) || decide (l[i].addr = x)) := by
      simp [zK, eqA_at hlt, ih1 i (by omega)]
    have hat := onlyL_at (x := x) hlt
    rw [← hz] at hat
    have hdr := drop_at hlt
    obtain ⟨c, hc⟩ : ∃ c, c = zK l x i K i := ⟨_, rfl⟩
    rw [← hc] at hat
    have hlow : ∀ t (h : t < i), stepK l x i K t = (K t || (c && needB (l[t]'(by omega)).addr l[i])) := fun t ht => by
      have h1 : ¬ t = i := by omega
      have e1 : zK l x i K t = K t := by simp [zK, h1]
      simp only [stepK, e1, ← hc, List.getElem?_eq_getElem hlt, eqA_need (show t < l.length by omega)]
      simp [ht]
    have hself : stepK l x i K i = c := by simp [stepK, ← hc]
    have hhi : ∀ t, i + 1 ≤ t → stepK l x i K t = K t := fun t ht => by
      have h1 : ¬ t = i := by omega
      have h2 : ¬ t < i := by omega
      simp [stepK, zK, h1, h2]
    refine ⟨fun t ht => ?_, ?_⟩
    · rw [hlow t ht, ih1 t (by omega), hat]
      cases c
      · simp
      · simp [anyB, Bool.or_comm]
    · rw [hdr, flK, hself, flK_congr hhi, ih2, hdr.symm, hat]
theorem only_alike (l : List Act) (x : List Int) : flK (kp l x l.length) l 0 = onlyL x l := by
  have := (kp_only l x l.length (Nat.le_refl _)).2
  simpa using this
theorem onlyL_mk (x : List Int) : ∀ l : List Act, mkAs (onlyL x l) ≤ mkAs l
  | [] => Nat.le_refl _
  | a :: l => by
    have := onlyL_mk x l
    simp only [onlyL]
    split <;> simp [mkAs] <;> omega
theorem planT_pos (l : List Act) (same : Int) : planT l same ≠ [] := by
  unfold planT
  simp
theorem p6 (b b2 : Bool) (l : List Act) (same : Int) (x : List Int) (hl : l.length ≤ 1048576) (ha : ∀ a ∈ l, ALen a ∧ AOk a) (hx : byteOk x = true) : phi C0 (lim C0) 6 [.ag [.pv b (.sl (rws aP l)), (.pv false (.sc (.int .i64 same)))], .pv b2 (.sl (nums .u8 x))] [] = some (if planB l same = true then (.tu [.ag [.nr 16 [] 0 (onlyL x l).length, (.pv false (.sc (.int .i64 same)))], (.pv false (.sc (.bool true)))], [(16, .tree .own (rws aP (onlyL x l)))]) else (.tu [.ag [.nr 16 [] 0 0, (.pv false (.sc (.int .i64 0)))], (.pv false (.sc (.bool false)))], [(16, .tree .own [])])) := call0 Tryz.func6 (by kernel_rfl) ((show ∀ fn : Func, fn.results = #[.cell 4 29, .tmp 5] → lim C0 6 fn [.c (code Tryz.f6)] ⟨_, _⟩ = _ from fun fn hr => by
  have q1 := fun b => p23 b l same hl ha
  have q2 := fun b b2 => p25 b b2 l same x hl (fun a h => (ha a h).2) hx
  rw [only_alike] at q2
  have q3 := fun b => p24 b (onlyL x l) same (by have := onlyL_len x l; omega) fun a h => (ha a (onlyL_mem h)).1
  have q4 : planT l same ≠ [] := planT_pos l same
  by_cases h : planB l same = true
  · have q5 : 0 < (planT l same).length := List.length_pos_iff.2 q4
    simp only [h, if_true] at q1
    generalize hT : planT l same = T at *
    have q6 : ¬ T.length = 0 := by omega
    simp [code, Tryz.f6, hr, q1, q2, q3, q4, q6, h]
  · simp only [h] at q1
    simp [code, Tryz.f6, hr, q1, h]
  ) Tryz.f6 Tryz.results6)
set_option maxHeartbeats 8000000
theorem e3 (fn : Func) (hr : fn.results = #[.tmp 4]) (l : List Act) (same : Int) (x : List Int) (hl : l.length ≤ 9223372036854775807) (ha : ∀ a ∈ l, ABig a ∧ byteOk a.addr = true ∧ VBy a.val ∧ ∀ x ∈ a.deps, byteOk x = true) (hx : byteOk x = true) (hxl : x.length ≤ 9223372036854775807) : lim C0 3 fn [.c (code Tryz.f3)] ⟨number [.ag [.pv false (.sl (rws aP l)), (.pv false (.sc (.int .i64 same)))], .pv false (.sl (nums .u8 x))] 0, []⟩ = some (tf true, []) := by
  have hp7 := plan3_7
  simp [opsOf, code, Tryz.f3] at hp7
  have hp10 := plan3_10
  simp [opsOf, code, Tryz.f3] at hp10
  have hp13 := plan3_13
  simp [opsOf, code, Tryz.f3] at hp13
  have hp30 := plan3_30
  simp [opsOf, code, Tryz.f3] at hp30
  have h14 := p5 false l same 1048576 (by omega) (by omega) hl (fun a h => (ha a h).1)
  simp [code, Tryz.f3, hr, hp7, hp10, hp13, hp30, h14]
  (first | refine ifL_cases (fun h => ?_) (fun h => ?_) | refine gI_cases' (fun h => ?_) (fun h => ?_) | refine gI_cases (fun h => ?_) (fun h => ?_) | refine dI_cases' (fun h => ?_) (fun h => ?_) | refine dI_cases (fun h => ?_) (fun h => ?_)) <;> first | replace h := of_decide_eq_true h | replace h := of_decide_eq_false h | skip
  · simp [hr]
  have hx2 : x.length ≤ 1048576 := by omega
  simp [h14, hr, hp7, hp10, hp13, hp30]
  (first | refine ifL_cases (fun h => ?_) (fun h => ?_) | refine gI_cases' (fun h => ?_) (fun h => ?_) | refine gI_cases (fun h => ?_) (fun h => ?_) | refine dI_cases' (fun h => ?_) (fun h => ?_) | refine dI_cases (fun h => ?_) (fun h => ?_)) <;> first | replace h := of_decide_eq_true h | replace h := of_decide_eq_false h | skip
  · simp [hr]
  obtain ⟨t1, t2⟩ := szAA_ok (l := l) (left := 1048576) (by omega) (by omega) (by omega)
  have t3 : ∀ a ∈ l, ALen a ∧ AOk a := fun a h => ⟨t2 a h, ⟨(t2 a h).addr, (ha a h).2.1, (t2 a h).vl, (ha a h).2.2.1, by have := (t2 a h).vp; omega, (t2 a h).dl, (ha a h).2.2.2⟩⟩
  have tm := szAA_mk (l := l) (left := 1048576) (by omega) (by omega)
  have o1 : (onlyL x l).length ≤ 1048576 := by have := onlyL_len x l; omega
  have o2 : ∀ a ∈ onlyL x l, ALen a := fun a h => t2 a (onlyL_mem h)
  have om := onlyL_mk x l
  have q1 := p7 l same t1 t2
  have q1' := p8 x hx2
  have q2 := fun b b' => p6 b b' l same x t1 t3 hx
  have q3 := fun b b' => p9 b b' l same x t1 t3 hx
  have q4 := fun b b' => p10 b b' l same t1 t2
  have q4' := fun b b' => p11 b b' x x (by omega)
  have q5 := p12 l same 1 (by omega) (by omega) t2 t1
  have q5' := p13 x (1 + mkAs l) (by omega) (by omega)
  have q6 := fun b b' s => p10 b b' (onlyL x l) s o1 o2
  have q7 := p12_t (onlyL x l) same 1 (by omega) (by omega) o2 o1
  have q8 := fun b => p14 b (onlyL x l) same 1 (by omega) (by omega) o2 o1
  have q6n := fun b b' s => p10 b b' [] s (by simp) (by simp)
  have q7n := p12_t [] 0 1 (by omega) (by simp) (by simp) (by simp)
  have q8n := fun b => p14 b [] 0 1 (by omega) (by simp) (by simp) (by simp)
  have c1 : ¬ (1 : Int) + mkAs l < 0 := by omega
  have c2 : ¬ (1 : Int) + mkAs l + x.length < 0 := by omega
  have c3 : ¬ (1 : Int) + mkAs (onlyL x l) < 0 := by omega
  simp only [decide_true, eq_self] at q4'
  by_cases h : planB l same = true
  · simp only [h, if_true] at q2 q3
    simp [q1, q1', q2, q3, q4, q4', q5, q5', q6, q7, q8, c1, c2, c3, hr, hp7, hp10, hp13, hp30]
  · simp only [h] at q2 q3
    simp only [rws, List.map_nil, List.length_nil] at q6n q7n q8n
    simp at q6n q7n q8n
    simp [q1, q1', q2, q3, q4, q4', q5, q5', q6n, q7n, q8n, c1, c2, c3, hr, hp7, hp10, hp13, hp30]
end Go.Proofs.YtgbfmdihmnpcdaaGreatDoor
