/- The law FnExactReach: for every graph and every list of vertices the program's Reach returns what the reference's returns, leaves its arguments as they were, and shares no memory with them or with another call's result. No conditions. -/
import Derived.Test.YtopoaemlbnkhgaaG22
import Derived.Test.YtopoaemlbnkhgaaX1
import Derived.Test.YtopoaemlbnkhgaaS2
namespace Go.Proofs.Ytopoaemlbnkhgaa.lawReach
open Go Go.Pm Go.Proofs Go.Proofs.Ytopoaemlbnkhgaa
set_option linter.unusedVariables false
set_option linter.unusedSimpArgs false
open Go.ChangeShapes Go.WideShapes Go.ChangeAt Go.RowKit
set_option maxRecDepth 100000 in
set_option maxHeartbeats 4000000 in
theorem e13 (fn : Func) (hr : fn.results = #[.tmp 4]) (n : Int) (l : List Ed) (p : List Int) (hl : l.length ≤ 9223372036854775807) (hp : p.length ≤ 9223372036854775807) : lim C0 13 fn [.c (code Try.f13)] ⟨number [grTV false n l, .pv false (.sl (nums .i64 p))] 0, []⟩ = some (tf true, []) := by
  have hp13 := plan13_13
  simp [opsOf, code, Try.f13] at hp13
  have h14 := p24 false false n l 1048576 (by omega) (by omega) hl
  simp at h14
  simp [code, Try.f13, hr, hp13]
  (first | refine ifL_cases (fun h => ?_) (fun h => ?_) | refine gI_cases' (fun h => ?_) (fun h => ?_) | refine gI_cases (fun h => ?_) (fun h => ?_) | refine dI_cases' (fun h => ?_) (fun h => ?_) | refine dI_cases (fun h => ?_) (fun h => ?_)) <;> first | replace h := of_decide_eq_true h | replace h := of_decide_eq_false h | skip
  · simp [*]
  simp [h14]
  (first | refine ifL_cases (fun h => ?_) (fun h => ?_) | refine gI_cases' (fun h => ?_) (fun h => ?_) | refine gI_cases (fun h => ?_) (fun h => ?_) | refine dI_cases' (fun h => ?_) (fun h => ?_) | refine dI_cases (fun h => ?_) (fun h => ?_)) <;> first | replace h := of_decide_eq_true h | replace h := of_decide_eq_false h | skip
  · simp [*]
  have t1 : l.length ≤ 1048576 := by grind [szL]
  have t2 : p.length ≤ 1048576 := by omega
  have t3 : l.length ≤ 4611686018427387904 := by omega
  have t4 : p.length ≤ 4611686018427387904 := by omega
  have q1 := fun b => p26 b n l t1
  have q2 := fun b => p30 b p t2
  have q5 := fun b b' n n' k l h => p28 b b' n n' k l h
  have q6 := fun b b' k l h => p32 b b' k l h
  have q7 := p33 n l 1 (by omega) (by omega)
  have q8 := p34
  have q9 := p37
  have r7 := q8 p (1 + 2 * l.length) (by omega) (by omega)
  have w1 : ¬ (1 + 2 * (l.length : Int) + p.length) < 0 := by omega
  by_cases hc : gOk n l = true ∧ (decide (p.length ≤ 20) && insR n p) = true
  · obtain ⟨hg, hc⟩ := hc
    obtain ⟨m, rfl, hm20, hl400, hch⟩ := gOk_n hg
    have he : ∀ e ∈ l, edIn m e = true := fun e h => gChk_in hch e h
    have q3 := fun b b' => p47 b b' m l p hm20 hl400 hg hch t2
    simp only [Bool.and_eq_true, decide_eq_true_eq] at hc
    have hs := insR_all hc.2
    have hfl : ∀ v : Int, (if h : 0 ≤ v ∧ v < m then told (waysL m l he [v] []) 20 else []).length ≤ 20 := fun v => by
      split
      · exact told_len _ _
      · simp
    have hf : ∀ (v : Int) (h : 0 ≤ v ∧ v < m), (if h : 0 ≤ v ∧ v < m then told (waysL m l he [v] []) 20 else []) = told (waysL m l he [v] []) 20 := fun v h => by rw [dif_pos h]
    have q4 := fun b b' => p44 b b' m l p (fun v => if h : 0 ≤ v ∧ v < m then told (waysL m l he [v] []) 20 else []) hm20 hl400 hc.1 hg he hc.2 hfl hf
    have heq := reach_eq he hm20 hs (fun v => if h : 0 ≤ v ∧ v < m then told (waysL m l he [v] []) 20 else []) hf
    rw [heq] at q4
    simp only [hc, decide_true, Bool.and_self, cond_true] at q3
    have hlen := told_len (rnds l m (marks p [])) m
    clear heq hf hfl
    generalize told (rnds l m (marks p [])) m = ol at *
    simp only [grTV] at q1 q3 q4 q5 q7
    have r8 := q8 ol 1 (by omega) (by omega)
    have r9 := fun b => q9 b ol.length 1 (by omega) (by omega)
    have t6 : ol.length ≤ 4611686018427387904 := by omega
    have w2 : ¬ (1 + (ol.length : Int)) < 0 := by omega
    clear hs he hc hlen
    simp [*]
  · have q34 : (∀ b b', phi C0 (lim C0) 47 [grTV b n l, .pv b' (.sl (nums .i64 p))] [] = some (.pv false (.sl []), [])) ∧ (∀ b b', phi C0 (lim C0) 44 [grTV b n l, .pv b' (.sl (nums .i64 p))] [] = some (.ref 16 0 0, [(16, .row .own 3 1 [])])) := by
      cases hg : gOk n l
      · exact ⟨fun b b' => p47_no b b' n l p t1 t2 hg, fun b b' => p44_no b b' n l p t1 t2 hg⟩
      · obtain ⟨m, rfl, hm20, hl400, hch⟩ := gOk_n hg
        have hc2 : (decide (p.length ≤ 20) && insR m p) = false := by
          cases h : (decide (p.length ≤ 20) && insR m p)
          · rfl
          · exact absurd ⟨hg, h⟩ hc
        refine ⟨fun b b' => ?_, fun b b' => p44_out b b' m l p hm20 hl400 t2 hg hc2⟩
        have := p47 b b' m l p hm20 hl400 hg hch t2
        rw [hc2] at this
        exact this
    obtain ⟨q3, q4⟩ := q34
    simp only [grTV] at q1 q3 q4 q5 q7
    have q6' := fun b => q6 b false [] [] (by simp)
    have r8 := q8 [] 1 (by omega) (by simp)
    have r9 := fun b => q9 b 0 1 (by omega) (by simp)
    simp at q3 q4 q6' r8 r9
    clear hc
    simp [*]
theorem p13 (n : Int) (l : List Ed) (p : List Int) (hl : l.length ≤ 9223372036854775807) (hp : p.length ≤ 9223372036854775807) : phi C0 (lim C0) 13 [grTV false n l, .pv false (.sl (nums .i64 p))] [] = some (tf true, []) := call0 Try.func13 (by kernel_rfl) (e13 Try.f13 Try.results13 n l p hl hp)
theorem run_ok (ps qs : List PV) (h : Shape C0 8 47 ps) (h' : Shape C0 8 23 qs) : ∃ out, lim C0 13 Try.f13 [.c (code Try.f13)] ⟨number [argTV true ps, argTV false qs] 0, []⟩ = some (tf true, out) := by
  obtain ⟨n, l, rfl, h1⟩ := graph_of h
  obtain ⟨p, rfl, h2⟩ := ints_of h'
  exact ⟨[], e13 Try.f13 Try.results13 n l p h1 h2⟩
set_option maxRecDepth 100000 in
theorem lifted (os : Os) (started : os.Started) (H : Type) (enc : TypeId × Value → H) :
    ReturnsInHanded {} Try.checked os 13 .any (Rows.fnExactReachSpec.pre6 enc Try.prog Try.f13 Rows.fnExactReachRow.domain false) (Rows.fnExactReachSpec.post enc Try.prog Try.f13 false true false false) := by
  refine returnsInHanded_of_change_sized (C := Try.checked) own started (by kernel_rfl) Try.func13
    (ChangeSpec.witness6 (enc := enc) (C := Try.checked) false ⟨#[], #[.agg #[.int .i64 0, .slice none 0 0], .slice none 0 0], []⟩ 8 (by kernel_rfl) (by kernel_rfl) (by kernel_rfl) (by kernel_rfl)) ?_
  intro W base args ds gs before hval0 hW hcnd hsz0 _
  have hval : ∀ (j : Nat) t v, Try.f13.params[j]? = some t → args[j]? = some v → Value.okWide Try.prog W .any base t v := hval0
  have hW' := hW
  obtain ⟨p, q, hA0, hV, rfl, hfz, hnd⟩ := hW
  have hA : DataW.TrodAll enc Try.prog W 0 (fun _ => true) true Try.f13.params.toList args.toList ds p := hA0
  rw [Try.params13] at hA hval
  obtain ⟨v0, vs0, d0, ds0, p0, q0, hargs, rfl, rfl, h0, r0⟩ := trodAll_cons hA
  obtain ⟨v1, vs1, d1, ds1, p1, q1, rfl, rfl, rfl, h1, r1⟩ := trodAll_cons r0
  obtain ⟨rfl, rfl, rfl⟩ := trodAll_nil r1
  obtain rfl : args = #[v0, v1] := by cases args; simp_all
  obtain ⟨rfl, rfl⟩ := trodVars_none hV
  have k0 := h0
  have lt0 : ∀ x ∈ p0, x.block < W.heap.size := by obtain ⟨m, hm⟩ := k0; exact DataW.trod_lt m _ _ _ hm
  obtain ⟨ps0, s0, z0⟩ := arg_rep (enc := enc) (C := C0) (W := W) (v := v0) tabOk (t := 47) (ti := ⟨2, 32, .struct [(0, 3), (1, 45)], .ag [.pv false (.sc (.int .i64 0)), .nl]⟩) (n := 8) (by kernel_rfl) (by kernel_rfl) (hval 0 47 v0 rfl rfl) h0
  have k1 := h1
  have lt1 : ∀ x ∈ p1, x.block < W.heap.size := by obtain ⟨m, hm⟩ := k1; exact DataW.trod_lt m _ _ _ hm
  obtain ⟨ps1, s1, z1⟩ := arg_rep (enc := enc) (C := C0) (W := W) (v := v1) tabOk (t := 23) (ti := ⟨1, 24, .slice 3, .nl⟩) (n := 8) (by kernel_rfl) (by kernel_rfl) (hval 1 23 v1 rfl rfl) h1
  obtain ⟨out, hl⟩ := run_ok ps0 ps1 s0 s1
  have hcall := law_calls prog_ok (g := 13) (gn := Try.f13) Try.func13 (by rfl) hl (W := W) (vs := #[v0, v1]) rfl (fun j t hj => by
    cases j with
    | zero => simp at hj; subst hj; exact z0
    | succ j =>
      cases j with
      | zero => simp at hj; subst hj; exact z1
      | succ j =>
        simp at hj)
  refine hcall.mono fun e W' ⟨he, bel⟩ => ?_
  subst he
  exact ⟨_, rfl, _, _, _, [], _, [], hW', trodAll_mk1 (shut_bool Try.underlying4 _), (trodAll_cons_mk (Below.trod laidOut (by kernel_rfl) (of_decide_eq_true (by kernel_rfl)) k0 bel lt0) (trodAll_cons_mk (Below.trod laidOut (by kernel_rfl) (of_decide_eq_true (by kernel_rfl)) k1 bel lt1) trodAll_mk0)), rfl, bel.frame _, fun h => by cases h⟩
theorem over : Rows.fnExactReachRow.holds Try.pinned (OpenSpec.ofChange Rows.fnExactReachSpec) :=
  OpenClaim.holds_of_wide 13 Try.f13 rfl rfl rfl rfl rfl rfl rfl ⟨rfl, rfl, rfl, rfl, rfl⟩ rfl rfl rfl rfl rfl (by kernel_rfl) Try.func13 (by kernel_rfl)
    (of_decide_eq_true (by kernel_rfl)) (by unfold Func.isWrapper; first | (rw [if_pos (by decide +kernel)]; kernel_rfl) | (rw [if_neg (by decide +kernel)]; exact ⟨rfl, rfl⟩))
    (fun os started H enc _ => lifted os started H enc)
end Go.Proofs.Ytopoaemlbnkhgaa.lawReach
namespace Go.Proofs.Ytopoaemlbnkhgaa
theorem FnExactReach_holds : Rows.FnExactReachSaid := lawReach.over
#print axioms FnExactReach_holds
end Go.Proofs.Ytopoaemlbnkhgaa
