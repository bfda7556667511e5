/- FnExactPlanText, walked. -/
import Derived.Test.YtgkhojgmpojodaaGreatDoorV15
import Derived.Test.YtgkhojgmpojodaaGreatDoorU2
namespace Go.Proofs.YtgkhojgmpojodaaGreatDoor
open Go Go.Pm Go.Proofs
set_option linter.unusedVariables false
set_option linter.unusedSimpArgs false
theorem planT_len {l : List Act} {same : Int} (h : planB l same = true) (ha : ∀ a ∈ l, ALen a) : (planT l same).length ≤ 1099511627776 := by
  unfold planB inI at h
  simp at h
  have hno : ∀ a ∈ l, actB a = true := fun a hm => by have := any_no h.2 a hm; simpa using this
  have hL := linesT_len (l := l) (fun a hm => ⟨hno a hm, (ha a hm).addr⟩)
  have hd := digT_len (n := same) (by omega) (by omega)
  have hl := h.1.1
  unfold planT
  simp
  omega
theorem flat_nums (l : List Int) : (nums .u8 l).all (fun r => r.all PV.isSc) = true := by
  rw [List.all_eq_true]
  intro r hr
  obtain ⟨x, _, rfl⟩ := List.mem_map.1 hr
  rfl
set_option maxHeartbeats 8000000
set_option maxRecDepth 100000 in
set_option maxHeartbeats 4000000 in
theorem e3 (fn : Func) (hr : fn.results = #[.tmp 2]) (l : List Act) (same : Int) (hl : l.length ≤ 9223372036854775807) (ha : ∀ a ∈ l, ABig a ∧ byteOk a.addr = true ∧ VBy a.val ∧ ∀ x ∈ a.deps, byteOk x = true) : lim C0 3 fn [.c (code Tryz.f3)] ⟨number [.ag [.pv false (.sl (rws aP l)), (.pv false (.sc (.int .i64 same)))]] 0, []⟩ = some (tf true, []) := by
  have hp10 := plan3_10
  simp [opsOf, code, Tryz.f3] at hp10
  have h14 := p11 false l same 1048576 (by omega) (by omega) hl (fun a h => (ha a h).1)
  simp [code, Tryz.f3, hr, hp10, h14]
  (first | refine ifL_cases (fun h => ?_) (fun h => ?_) | refine gI_cases' (fun h => ?_) (fun h => ?_) | refine gI_cases (fun h => ?_) (fun h => ?_) | refine dI_cases' (fun h => ?_) (fun h => ?_) | refine dI_cases (fun h => ?_) (fun h => ?_)) <;> first | replace h := of_decide_eq_true h | replace h := of_decide_eq_false h | skip
  · simp [hr]
  obtain ⟨t1, t2⟩ := szAA_ok (l := l) (left := 1048576) (by omega) (by omega) (by omega)
  have t3 : ∀ a ∈ l, ALen a ∧ AOk a := fun a h => ⟨t2 a h, ⟨(t2 a h).addr, (ha a h).2.1, (t2 a h).vl, (ha a h).2.2.1, by have := (t2 a h).vp; omega, (t2 a h).dl, (ha a h).2.2.2⟩⟩
  have tm := szAA_mk (l := l) (left := 1048576) (by omega) (by omega)
  have q1 := p13 l same t1 t2
  have q2 := fun b => p12 b l same t1 t3
  have q3 := fun b => p14 b l same t1 t3
  have q4 := fun b b' => p16 b b' l same t1 t2
  have q5 := p17 l same 1 (by omega) (by omega) t2 t1
  have hT : (if planB l same = true then planT l same else []).length ≤ 1099511627776 := by
    split
    · exact planT_len (by assumption) t2
    · simp
  generalize (if planB l same = true then planT l same else []) = T at *
  have q6 := fun b b' => p15 b b' T T (by omega)
  have q7 := p18_own T 1 (by omega) (by omega)
  have q8 := fun b => p19 b T.length 1 (by omega) (by omega)
  have f1 := flat_nums T
  have c1 : ¬ (1 : Int) + mkAs l < 0 := by omega
  have c2 : ¬ (1 : Int) + T.length < 0 := by omega
  simp only [decide_true, eq_self] at q6
  have k1 : List.take T.length (mkL T.length 1) = mkL T.length 1 := List.take_of_length_le (by simp)
  simp [q1, q2, q3, q4, q5, q6, q7, q8, f1, c1, c2, k1, hr, hp10]
theorem p3 (l : List Act) (same : Int) (hl : l.length ≤ 9223372036854775807) (ha : ∀ a ∈ l, ABig a ∧ byteOk a.addr = true ∧ VBy a.val ∧ ∀ x ∈ a.deps, byteOk x = true) : phi C0 (lim C0) 3 [.ag [.pv false (.sl (rws aP l)), (.pv false (.sc (.int .i64 same)))]] [] = some (tf true, []) := call0 Tryz.func3 (by kernel_rfl) (e3 Tryz.f3 Tryz.results3 l same hl ha)
end Go.Proofs.YtgkhojgmpojodaaGreatDoor
