/- FnExactResume, walked. -/
import Derived.Test.YtgbfmdihmnpcdaaGreatDoorR5
import Derived.Test.YtgbfmdihmnpcdaaGreatDoorR8
namespace Go.Proofs.YtgbfmdihmnpcdaaGreatDoor
open Go Go.Pm Go.Proofs
set_option linter.unusedVariables false
set_option linter.unusedSimpArgs false
set_option maxRecDepth 100000
set_option maxHeartbeats 4000000
theorem resH_cases (h : His) : resH h = h ∨ resH h = ⟨h.base, h.evs ++ [rst], h.evs.length + 1⟩ ∨ resH h = ⟨⟨0, false, [], 0, []⟩, [], 0⟩ := by
 unfold resH
 cases hisB h
 · exact .inr (.inr rfl)
 · cases resB h
   · exact .inl rfl
   · exact .inr (.inl rfl)
theorem resH_alen {h : His} (t2 : ∀ x ∈ h.base.ents, ALen (nA x)) (v2 : ∀ x ∈ h.evs, ALen (eA x)) : (∀ x ∈ (resH h).base.ents, ALen (nA x)) ∧ ∀ x ∈ (resH h).evs, ALen (eA x) := by
 rcases resH_cases h with e | e | e <;> rw [e]
 · exact ⟨t2, v2⟩
 · refine ⟨t2, fun x hx => ?_⟩
   rcases List.mem_append.1 hx with hx | hx
   · exact v2 x hx
   · rw [List.mem_singleton.1 hx]; exact ⟨rst_ok.addr, rst_ok.vl, rst_ok.vp, rst_ok.dl⟩
 · exact ⟨fun x hx => (by cases hx), fun x hx => (by cases hx)⟩
theorem resH_mk (h : His) : (resH h).base.pend.length + mkAs (nAs (resH h).base.ents) + mkAs (eAs (resH h).evs) ≤ h.base.pend.length + mkAs (nAs h.base.ents) + mkAs (eAs h.evs) + 4 := by
 have e1 : mkAs (eAs (h.evs ++ [rst])) = mkAs (eAs h.evs) + 4 := by
  rw [show eAs (h.evs ++ [rst]) = eAs h.evs ++ [eA rst] by simp [eAs], mkAs_app]
  simp [mkAs, mkA, eA]
 rcases resH_cases h with e | e | e <;> rw [e]
 · omega
 · simp only [e1]; omega
 · simp [nAs, eAs]
set_option maxHeartbeats 8000000
theorem e4 (fn : Func) (hr : fn.results = #[.tmp 2]) (y : His) (hpl : y.base.pend.length ≤ 9223372036854775807) (hpb : byteOk y.base.pend = true) (hl : y.base.ents.length ≤ 9223372036854775807) (ha : ∀ x ∈ y.base.ents, ABig (nA x) ∧ byteOk x.addr = true ∧ VBy x.val ∧ ∀ y ∈ x.deps, byteOk y = true) (hel : y.evs.length ≤ 9223372036854775807) (hea : ∀ x ∈ y.evs, ABig (eA x) ∧ byteOk x.addr = true ∧ VBy x.val ∧ ∀ y ∈ x.deps, byteOk y = true) : lim C3 4 fn [.c (code Tryz.f4)] ⟨number [.ag [(iv y.base.serial), (bv y.base.opn), .pv false (.sl (nums .u8 y.base.pend)), (iv y.base.act), .pv false (.sl (rws nP y.base.ents)), .pv false (.sl (rws eP y.evs)), (iv y.safe)]] 0, []⟩ = some (tf true, []) := by
 have hp5 := plan4_5
 simp [opsOf, code, Tryz.f4] at hp5
 have hp7 := plan4_7
 simp [opsOf, code, Tryz.f4] at hp7
 have hp10 := plan4_10
 simp [opsOf, code, Tryz.f4] at hp10
 have hp24 := plan4_24
 simp [opsOf, code, Tryz.f4] at hp24
 have h14 := lo3 (p15 y 1048576 (by omega) (by omega) hpl hl (fun x h => (ha x h).1) hel (fun x h => (hea x h).1))
 simp [code, Tryz.f4, hr, hp5, hp7, hp10, hp24, h14]
 (first | refine ifL_cases (fun h => ?_) (fun h => ?_) | refine gI_cases' (fun h => ?_) (fun h => ?_) | refine gI_cases (fun h => ?_) (fun h => ?_) | refine dI_cases' (fun h => ?_) (fun h => ?_) | refine dI_cases (fun h => ?_) (fun h => ?_)) <;> first | replace h := of_decide_eq_true h | replace h := of_decide_eq_false h | skip
 · simp [hr]
 have hsz : ¬ szH y 1048576 < 0 := by assumption
 have y1 := szS_le y.base 1048576 (by omega)
 have e1 : szH y 1048576 = if szS y.base 1048576 < 0 then -1 else szAA (eAs y.evs) (szS y.base 1048576) := rfl
 rw [e1] at hsz
 split at hsz
 · omega
 rename_i hsz0
 obtain ⟨v1, v2⟩ := szAA_ok (l := eAs y.evs) (left := szS y.base 1048576) (by omega) (by omega) hsz
 have v1 : y.evs.length ≤ 1048576 := by simpa using v1
 have vm := szAA_mk (l := eAs y.evs) (left := szS y.base 1048576) (by omega) hsz
 have v2 : ∀ x ∈ y.evs, ALen (eA x) := eAs_mem v2
 have z1 := szL_le y.base.pend.length 1048576 (by omega)
 have e0 : szS y.base 1048576 = if szL y.base.pend.length 1048576 < 0 then -1 else szAA (nAs y.base.ents) (szL y.base.pend.length 1048576) := rfl
 rw [e0] at hsz0
 split at hsz0
 · omega
 rename_i hz1
 have z2 := szL_ok hz1
 obtain ⟨t1, t2⟩ := szAA_ok (l := nAs y.base.ents) (left := szL y.base.pend.length 1048576) (by omega) (by omega) hsz0
 have t1 : y.base.ents.length ≤ 1048576 := by simpa using t1
 have tm := szAA_mk (l := nAs y.base.ents) (left := szL y.base.pend.length 1048576) (by omega) hsz0
 have t2 : ∀ x ∈ y.base.ents, ALen (nA x) := nAs_mem t2
 have tp : y.base.pend.length ≤ 1048576 := by omega
 have t3 : HOk y := ⟨⟨tp, hpb, t1, fun x hx => ⟨(t2 x hx).addr, (ha x hx).2.1, (t2 x hx).vl, (ha x hx).2.2.1, (t2 x hx).vp, (t2 x hx).dl, (ha x hx).2.2.2⟩⟩, v1, fun x hx => ⟨(v2 x hx).addr, (hea x hx).2.1, (v2 x hx).vl, (hea x hx).2.2.1, (v2 x hx).vp, (v2 x hx).dl, (hea x hx).2.2.2⟩⟩
 have hmk := resH_mk y
 obtain ⟨r2, r3⟩ := resH_alen t2 v2
 have r0 := resH_ok t3
 have q1 := lo3 (p17 y tp t1 t2 v1 v2)
 have q2 := t16 y t3
 have q3 := t18 y t3
 have q4 := fun b1 b2 b3 c1 c2 c3 => lo3 (p19 y b1 b2 b3 c1 c2 c3 tp t1 t2 v1 v2)
 have q5 := lo3 (p20 y 1 (by omega) (by omega) t2 t1 v2 v1)
 generalize hR : resH y = R at *
 generalize resB y = B at *
 have q6 := fun b1 b2 b3 c1 c2 c3 => lo3 (p19 R b1 b2 b3 c1 c2 c3 r0.base.pend r0.base.ents r2 r0.evs r3)
 have q7 := lo3 (p20_t R 1 (by omega) (by omega) r2 r0.base.ents r3 r0.evs)
 have q8 := fun b1 b2 b3 => lo3 (p21 R 1 b1 b2 b3 (by omega) (by omega) r2 r0.base.ents r3 r0.evs)
 have c1 : ¬ (1 : Int) + y.base.pend.length + mkAs (nAs y.base.ents) + mkAs (eAs y.evs) < 0 := by omega
 have c2 : ¬ (1 : Int) + R.base.pend.length + mkAs (nAs R.base.ents) + mkAs (eAs R.evs) < 0 := by omega
 generalize mkAs (nAs y.base.ents) = M at *
 generalize mkAs (eAs y.evs) = M2 at *
 clear h14 e0 e1 hsz hsz0 hz1 z2 tm t2 t3 z1 vm v2 y1 hmk r2 r3 r0
 simp [q1, q2, q3, q4, q5, q6, q7, q8, c1, c2, hr, hp5, hp7, hp10, hp24]
end Go.Proofs.YtgbfmdihmnpcdaaGreatDoor
