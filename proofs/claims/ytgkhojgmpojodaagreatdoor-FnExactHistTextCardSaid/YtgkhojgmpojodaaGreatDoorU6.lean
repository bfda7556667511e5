/- FnExactHistText, walked. -/
import Derived.Test.YtgkhojgmpojodaaGreatDoorW28
namespace Go.Proofs.YtgkhojgmpojodaaGreatDoor
open Go Go.Pm Go.Proofs
set_option linter.unusedVariables false
set_option linter.unusedSimpArgs false
set_option maxRecDepth 100000
set_option maxHeartbeats 4000000
theorem flat_numsH (l : List Int) : (nums .u8 l).all (fun r => r.all PV.isSc) = true := by
  rw [List.all_eq_true]
  intro r hr
  obtain ⟨x, _, rfl⟩ := List.mem_map.1 hr
  rfl
set_option maxHeartbeats 8000000
theorem e9 (fn : Func) (hr : fn.results = #[.tmp 2]) (y : His) (hpl : y.base.pend.length ≤ 9223372036854775807) (hpb : byteOk y.base.pend = true) (hl : y.base.ents.length ≤ 9223372036854775807) (ha : ∀ x ∈ y.base.ents, ABig (nA x) ∧ byteOk x.addr = true ∧ VBy x.val ∧ ∀ y ∈ x.deps, byteOk y = true) (hel : y.evs.length ≤ 9223372036854775807) (hea : ∀ x ∈ y.evs, ABig (eA x) ∧ byteOk x.addr = true ∧ VBy x.val ∧ ∀ y ∈ x.deps, byteOk y = true) : lim C0 9 fn [.c (code Tryz.f9)] ⟨number [.ag [(.pv false (.sc (.int .i64 y.base.serial))), (.pv false (.sc (.bool y.base.opn))), .pv false (.sl (nums .u8 y.base.pend)), (.pv false (.sc (.int .i64 y.base.act))), .pv false (.sl (rws nP y.base.ents)), .pv false (.sl (rws eP y.evs)), (.pv false (.sc (.int .i64 y.safe)))]] 0, []⟩ = some (tf true, []) := by
  have hp10 := plan9_10
  simp [opsOf, code, Tryz.f9] at hp10
  have h14 := p46 y 1048576 (by omega) (by omega) hpl hl (fun x h => (ha x h).1) hel (fun x h => (hea x h).1)
  simp [code, Tryz.f9, hr, hp10, h14]
  (first | refine ifL_cases (fun h => ?_) (fun h => ?_) | refine gI_cases' (fun h => ?_) (fun h => ?_) | refine gI_cases (fun h => ?_) (fun h => ?_) | refine dI_cases' (fun h => ?_) (fun h => ?_) | refine dI_cases (fun h => ?_) (fun h => ?_)) <;> first | replace h := of_decide_eq_true h | replace h := of_decide_eq_false h | skip
  · simp [hr]
  have hsz : ¬ szH y 1048576 < 0 := by assumption
  have y1 := szS_le y.base 1048576 (by omega)
  have e1 : szH y 1048576 = if szS y.base 1048576 < 0 then -1 else szAA (eAs y.evs) (szS y.base 1048576) := rfl
  rw [e1] at hsz
  split at hsz
  · omega
  rename_i hsz0
  obtain ⟨v1, v2⟩ := szAA_ok (l := eAs y.evs) (left := szS y.base 1048576) (by omega) (by omega) hsz
  have v1 : y.evs.length ≤ 1048576 := by simpa using v1
  have vm := szAA_mk (l := eAs y.evs) (left := szS y.base 1048576) (by omega) hsz
  have v2 : ∀ x ∈ y.evs, ALen (eA x) := eAs_mem v2
  have z1 := szL_le y.base.pend.length 1048576 (by omega)
  have e0 : szS y.base 1048576 = if szL y.base.pend.length 1048576 < 0 then -1 else szAA (nAs y.base.ents) (szL y.base.pend.length 1048576) := rfl
  rw [e0] at hsz0
  split at hsz0
  · omega
  rename_i hz1
  have z2 := szL_ok hz1
  obtain ⟨t1, t2⟩ := szAA_ok (l := nAs y.base.ents) (left := szL y.base.pend.length 1048576) (by omega) (by omega) hsz0
  have t1 : y.base.ents.length ≤ 1048576 := by simpa using t1
  have tm := szAA_mk (l := nAs y.base.ents) (left := szL y.base.pend.length 1048576) (by omega) hsz0
  have t2 : ∀ x ∈ y.base.ents, ALen (nA x) := nAs_mem t2
  have tp : y.base.pend.length ≤ 1048576 := by omega
  have t3 : HOk y := ⟨⟨tp, hpb, t1, fun x hx => ⟨(t2 x hx).addr, (ha x hx).2.1, (t2 x hx).vl, (ha x hx).2.2.1, (t2 x hx).vp, (t2 x hx).dl, (ha x hx).2.2.2⟩⟩, v1, fun x hx => ⟨(v2 x hx).addr, (hea x hx).2.1, (v2 x hx).vl, (hea x hx).2.2.1, (v2 x hx).vp, (v2 x hx).dl, (hea x hx).2.2.2⟩⟩
  have q1 := p48 y tp t1 t2 v1 v2
  have q2 := p47 y t3
  have q3 := p49 y t3
  have q4 := fun b1 b2 b3 c1 c2 c3 => p50 y b1 b2 b3 c1 c2 c3 tp t1 t2 v1 v2
  have q5 := p51 y 1 (by omega) (by omega) t2 t1 v2 v1
  have hT : (if hisB y = true then hisT y.base.serial y.evs else []).length ≤ 1099511627776 := by
    split
    · rename_i hb
      have := (hisB_facts t3 hb).2.2.2.2 y.evs.length
      rw [List.take_length] at this
      omega
    · simp
  generalize (if hisB y = true then hisT y.base.serial y.evs else []) = T at *
  have q6 := fun b b' => p15 b b' T T (by omega)
  have q7 := p18_own T 1 (by omega) (by omega)
  have q8 := fun b => p19 b T.length 1 (by omega) (by omega)
  have f1 := flat_numsH T
  have c1 : ¬ (1 : Int) + y.base.pend.length + mkAs (nAs y.base.ents) + mkAs (eAs y.evs) < 0 := by omega
  have c2 : ¬ (1 : Int) + T.length < 0 := by omega
  simp only [decide_true, eq_self] at q6
  have k1 : List.take T.length (mkL T.length 1) = mkL T.length 1 := List.take_of_length_le (by simp)
  generalize mkAs (nAs y.base.ents) = M at *
  generalize mkAs (eAs y.evs) = M2 at *
  clear h14 e0 e1 hsz hsz0 hz1 z2 tm t2 t3 hT z1 vm v2 y1
  simp [q1, q2, q3, q4, q5, q6, q7, q8, f1, c1, c2, k1, hr, hp10]
end Go.Proofs.YtgkhojgmpojodaaGreatDoor
