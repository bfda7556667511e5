/- FnExactStateText, walked. -/
import Derived.Test.YtgkhojgmpojodaaGreatDoorW15
namespace Go.Proofs.YtgkhojgmpojodaaGreatDoor
open Go Go.Pm Go.Proofs
set_option linter.unusedVariables false
set_option linter.unusedSimpArgs false
set_option maxRecDepth 100000 in
set_option maxHeartbeats 4000000 in
theorem e34 (fn : Func) (hr : fn.results = #[.tmp 4]) (serial : Int) (opn : Bool) (pend : List Int) (act : Int) (ents : List En) (k : Int) (h0 : 0 ≤ k) (h1 : k + pend.length + mkAs (nAs ents) ≤ 4611686018427387904) (h2 : ∀ x ∈ ents, ALen (nA x)) (hl : ents.length ≤ 1048576) : lim C0 34 fn [.c (code Tryz.f34)] ⟨number [.ag [(.pv false (.sc (.int .i64 serial))), (.pv false (.sc (.bool opn))), .dv (some 0) (nums .u8 pend), (.pv false (.sc (.int .i64 act))), .dv (some 0) (rws nP ents)], (.pv false (.sc (.int .i64 k)))] 0, [(0, .dat false)]⟩ = some ((.pv false (.sc (.int .i64 (k + pend.length + mkAs (nAs ents))))), [(0, .dat false)]) := by
  have q1 := p18 pend k (by omega) (by omega)
  have q2 := p89 ents (k + pend.length) (by omega) (by omega) h2 hl
  simp [code, Tryz.f34, hr, q1, q2]
theorem p34 (serial : Int) (opn : Bool) (pend : List Int) (act : Int) (ents : List En) (k : Int) (h0 : 0 ≤ k) (h1 : k + pend.length + mkAs (nAs ents) ≤ 4611686018427387904) (h2 : ∀ x ∈ ents, ALen (nA x)) (hl : ents.length ≤ 1048576) : phi C0 (lim C0) 34 [.ag [(.pv false (.sc (.int .i64 serial))), (.pv false (.sc (.bool opn))), .dv (some 0) (nums .u8 pend), (.pv false (.sc (.int .i64 act))), .dv (some 0) (rws nP ents)], (.pv false (.sc (.int .i64 k)))] [(0, .dat false)] = some ((.pv false (.sc (.int .i64 (k + pend.length + mkAs (nAs ents))))), [(0, .dat false)]) := call0 Tryz.func34 (by kernel_rfl) (e34 Tryz.f34 Tryz.results34 serial opn pend act ents k h0 h1 h2 hl)
theorem stT_len {s : Sta} (hs : SOk s) (h : stB s = true) : (stT s).length ≤ 1099511627776 := by
  obtain ⟨b1, b2, b3, b4⟩ := stB_ents hs h
  have h1 := headT_len (serial := s.serial) (opn := s.opn) (pend := s.pend) (act := s.act) b1 hs.pend
  have h2 := entsT_len b3
  unfold stT
  simp only [List.length_append]
  omega
theorem flat_numsS (l : List Int) : (nums .u8 l).all (fun r => r.all PV.isSc) = true := by
  rw [List.all_eq_true]
  intro r hr
  obtain ⟨x, _, rfl⟩ := List.mem_map.1 hr
  rfl
set_option maxHeartbeats 8000000
set_option maxRecDepth 100000 in
set_option maxHeartbeats 4000000 in
theorem e6 (fn : Func) (hr : fn.results = #[.tmp 2]) (serial : Int) (opn : Bool) (pend : List Int) (act : Int) (ents : List En) (hpl : pend.length ≤ 9223372036854775807) (hpb : byteOk pend = true) (hl : ents.length ≤ 9223372036854775807) (ha : ∀ x ∈ ents, ABig (nA x) ∧ byteOk x.addr = true ∧ VBy x.val ∧ ∀ y ∈ x.deps, byteOk y = true) : lim C0 6 fn [.c (code Tryz.f6)] ⟨number [.ag [(.pv false (.sc (.int .i64 serial))), (.pv false (.sc (.bool opn))), .pv false (.sl (nums .u8 pend)), (.pv false (.sc (.int .i64 act))), .pv false (.sl (rws nP ents))]] 0, []⟩ = some (tf true, []) := by
  have hp10 := plan6_10
  simp [opsOf, code, Tryz.f6] at hp10
  have h14 := p30 ⟨serial, opn, pend, act, ents⟩ 1048576 (by omega) (by omega) hpl hl (fun x h => (ha x h).1)
  dsimp only at h14
  simp [code, Tryz.f6, hr, hp10, h14]
  (first | refine ifL_cases (fun h => ?_) (fun h => ?_) | refine gI_cases' (fun h => ?_) (fun h => ?_) | refine gI_cases (fun h => ?_) (fun h => ?_) | refine dI_cases' (fun h => ?_) (fun h => ?_) | refine dI_cases (fun h => ?_) (fun h => ?_)) <;> first | replace h := of_decide_eq_true h | replace h := of_decide_eq_false h | skip
  · simp [hr]
  have hsz : ¬ szS ⟨serial, opn, pend, act, ents⟩ 1048576 < 0 := by assumption
  have z1 := szL_le pend.length 1048576 (by omega)
  have e0 : szS ⟨serial, opn, pend, act, ents⟩ 1048576 = if szL pend.length 1048576 < 0 then -1 else szAA (nAs ents) (szL pend.length 1048576) := rfl
  rw [e0] at hsz
  split at hsz
  · omega
  rename_i hz1
  have z2 := szL_ok hz1
  obtain ⟨t1, t2⟩ := szAA_ok (l := nAs ents) (left := szL pend.length 1048576) (by omega) (by omega) hsz
  have t1 : ents.length ≤ 1048576 := by simpa using t1
  have tm := szAA_mk (l := nAs ents) (left := szL pend.length 1048576) (by omega) hsz
  have t2 : ∀ x ∈ ents, ALen (nA x) := nAs_mem t2
  have t3 : SOk ⟨serial, opn, pend, act, ents⟩ := ⟨by show pend.length ≤ 1048576; omega, hpb, t1, fun x hx => ⟨(t2 x hx).addr, (ha x hx).2.1, (t2 x hx).vl, (ha x hx).2.2.1, (t2 x hx).vp, (t2 x hx).dl, (ha x hx).2.2.2⟩⟩
  have q1 := p32 ⟨serial, opn, pend, act, ents⟩ (by show pend.length ≤ 1048576; omega) t1 t2
  have q2 := p31 serial opn pend act ents t3
  have q3 := p27 serial opn pend act ents t3
  have q4 := fun b1 b2 c1 c2 => p33 ⟨serial, opn, pend, act, ents⟩ b1 b2 c1 c2 (by show pend.length ≤ 1048576; omega) t1 t2
  have q5 := p34 serial opn pend act ents 1 (by omega) (by omega) t2 t1
  dsimp only at q1 q4
  have hT : (if stB ⟨serial, opn, pend, act, ents⟩ = true then stT ⟨serial, opn, pend, act, ents⟩ else []).length ≤ 1099511627776 := by
    split
    · exact stT_len t3 (by assumption)
    · simp
  generalize (if stB ⟨serial, opn, pend, act, ents⟩ = true then stT ⟨serial, opn, pend, act, ents⟩ else []) = T at *
  have q6 := fun b b' => p15 b b' T T (by omega)
  have q7 := p18_own T 1 (by omega) (by omega)
  have q8 := fun b => p19 b T.length 1 (by omega) (by omega)
  have f1 := flat_numsS T
  have c1 : ¬ (1 : Int) + pend.length + mkAs (nAs ents) < 0 := by omega
  have c2 : ¬ (1 : Int) + T.length < 0 := by omega
  simp only [decide_true, eq_self] at q6
  have k1 : List.take T.length (mkL T.length 1) = mkL T.length 1 := List.take_of_length_le (by simp)
  generalize mkAs (nAs ents) = M at *
  clear h14 e0 hsz hz1 z2 tm t2 t3 hT z1
  simp [q1, q2, q3, q4, q5, q6, q7, q8, f1, c1, c2, k1, hr, hp10]
theorem p6 (serial : Int) (opn : Bool) (pend : List Int) (act : Int) (ents : List En) (hpl : pend.length ≤ 9223372036854775807) (hpb : byteOk pend = true) (hl : ents.length ≤ 9223372036854775807) (ha : ∀ x ∈ ents, ABig (nA x) ∧ byteOk x.addr = true ∧ VBy x.val ∧ ∀ y ∈ x.deps, byteOk y = true) : phi C0 (lim C0) 6 [.ag [(.pv false (.sc (.int .i64 serial))), (.pv false (.sc (.bool opn))), .pv false (.sl (nums .u8 pend)), (.pv false (.sc (.int .i64 act))), .pv false (.sl (rws nP ents))]] [] = some (tf true, []) := call0 Tryz.func6 (by kernel_rfl) (e6 Tryz.f6 Tryz.results6 serial opn pend act ents hpl hpb hl ha)
end Go.Proofs.YtgkhojgmpojodaaGreatDoor
