/- The law FnExactLayer: for every graph and every vertex the program's Layer returns what the reference's returns, and leaves its argument as it was. No conditions. -/
import Derived.Test.YtopoaemlbnkhgaaG10
import Derived.Test.YtopoaemlbnkhgaaS2
namespace Go.Proofs.Ytopoaemlbnkhgaa.lawLayer
open Go Go.Pm Go.Proofs Go.Proofs.Ytopoaemlbnkhgaa
set_option linter.unusedVariables false
set_option linter.unusedSimpArgs false
open Go.ChangeShapes Go.WideShapes Go.ChangeAt Go.RowKit
set_option maxRecDepth 100000 in
set_option maxHeartbeats 4000000 in
theorem e5 (fn : Func) (hr : fn.results = #[.tmp 4]) (n v : Int) (l : List Ed) (hl : l.length ≤ 9223372036854775807) : lim C0 5 fn [.c (code Try.f5)] ⟨number [grTV false n l, (.pv false (.sc (.int .i64 v)))] 0, []⟩ = some (tf true, []) := by
  have hp10 := plan5_10
  simp [opsOf, code, Try.f5] at hp10
  have h14 := p24 false false n l 1048576 (by omega) (by omega) hl
  simp at h14
  simp [code, Try.f5, hr, hp10, h14]
  (first | refine ifL_cases (fun h => ?_) (fun h => ?_) | refine gI_cases' (fun h => ?_) (fun h => ?_) | refine gI_cases (fun h => ?_) (fun h => ?_) | refine dI_cases' (fun h => ?_) (fun h => ?_) | refine dI_cases (fun h => ?_) (fun h => ?_)) <;> first | replace h := of_decide_eq_true h | replace h := of_decide_eq_false h | skip
  · simp [*]
  have t1 : l.length ≤ 1048576 := by grind [szL]
  have t3 : l.length ≤ 4611686018427387904 := by omega
  have q1 := fun b => p26 b n l t1
  have q3 := fun b => p25 b n v l t1
  have q4 := fun b => p27 b n v l t1
  have q5 := fun b b' n n' k l h => p28 b b' n n' k l h
  simp only [grTV] at q1 q3 q4 q5
  simp [*]
theorem p5 (n v : Int) (l : List Ed) (hl : l.length ≤ 9223372036854775807) : phi C0 (lim C0) 5 [grTV false n l, (.pv false (.sc (.int .i64 v)))] [] = some (tf true, []) := call0 Try.func5 (by kernel_rfl) (e5 Try.f5 Try.results5 n v l hl)
theorem run_ok (ps qs : List PV) (h : Shape C0 8 47 ps) (h' : Shape C0 8 3 qs) : ∃ out, lim C0 5 Try.f5 [.c (code Try.f5)] ⟨number [argTV true ps, argTV false qs] 0, []⟩ = some (tf true, out) := by
  obtain ⟨n, l, rfl, h1⟩ := graph_of h
  obtain ⟨v, rfl⟩ := int_of h'
  exact ⟨[], e5 Try.f5 Try.results5 n v l h1⟩
set_option maxRecDepth 100000 in
theorem lifted (os : Os) (started : os.Started) (H : Type) (enc : TypeId × Value → H) :
    ReturnsInHanded {} Try.checked os 5 .any (Rows.fnExactLayerSpec.pre6 enc Try.prog Try.f5 Rows.fnExactLayerRow.domain false) (Rows.fnExactLayerSpec.post enc Try.prog Try.f5 false true false false) := by
  refine returnsInHanded_of_change_sized (C := Try.checked) own started (by kernel_rfl) Try.func5
    (ChangeSpec.witness6 (enc := enc) (C := Try.checked) false ⟨#[], #[.agg #[.int .i64 0, .slice none 0 0], .int .i64 0], []⟩ 8 (by kernel_rfl) (by kernel_rfl) (by kernel_rfl) (by kernel_rfl)) ?_
  intro W base args ds gs before hval0 hW hcnd hsz0 _
  have hval : ∀ (j : Nat) t v, Try.f5.params[j]? = some t → args[j]? = some v → Value.okWide Try.prog W .any base t v := hval0
  have hW' := hW
  obtain ⟨p, q, hA0, hV, rfl, hfz, hnd⟩ := hW
  have hA : DataW.TrodAll enc Try.prog W 0 (fun _ => true) true Try.f5.params.toList args.toList ds p := hA0
  rw [Try.params5] at hA hval
  obtain ⟨v0, vs0, d0, ds0, p0, q0, hargs, rfl, rfl, h0, r0⟩ := trodAll_cons hA
  obtain ⟨v1, vs1, d1, ds1, p1, q1, rfl, rfl, rfl, h1, r1⟩ := trodAll_cons r0
  obtain ⟨rfl, rfl, rfl⟩ := trodAll_nil r1
  obtain rfl : args = #[v0, v1] := by cases args; simp_all
  obtain ⟨rfl, rfl⟩ := trodVars_none hV
  have k0 := h0
  have lt0 : ∀ x ∈ p0, x.block < W.heap.size := by obtain ⟨m, hm⟩ := k0; exact DataW.trod_lt m _ _ _ hm
  obtain ⟨ps0, s0, z0⟩ := arg_rep (enc := enc) (C := C0) (W := W) (v := v0) tabOk (t := 47) (ti := ⟨2, 32, .struct [(0, 3), (1, 45)], .ag [.pv false (.sc (.int .i64 0)), .nl]⟩) (n := 8) (by kernel_rfl) (by kernel_rfl) (hval 0 47 v0 rfl rfl) h0
  have k1 := h1
  have lt1 : ∀ x ∈ p1, x.block < W.heap.size := by obtain ⟨m, hm⟩ := k1; exact DataW.trod_lt m _ _ _ hm
  obtain ⟨ps1, s1, z1⟩ := arg_rep (enc := enc) (C := C0) (W := W) (v := v1) tabOk (t := 3) (ti := ⟨1, 8, .int .i64, .pv false (.sc (.int .i64 0))⟩) (n := 8) (by kernel_rfl) (by kernel_rfl) (hval 1 3 v1 rfl rfl) h1
  obtain ⟨out, hl⟩ := run_ok ps0 ps1 s0 s1
  have hcall := law_calls prog_ok (g := 5) (gn := Try.f5) Try.func5 (by rfl) hl (W := W) (vs := #[v0, v1]) rfl (fun j t hj => by
    cases j with
    | zero => simp at hj; subst hj; exact z0
    | succ j =>
      cases j with
      | zero => simp at hj; subst hj; exact z1
      | succ j =>
        simp at hj)
  refine hcall.mono fun e W' ⟨he, bel⟩ => ?_
  subst he
  exact ⟨_, rfl, _, _, _, [], _, [], hW', trodAll_mk1 (shut_bool Try.underlying4 _), (trodAll_cons_mk (Below.trod laidOut (by kernel_rfl) (of_decide_eq_true (by kernel_rfl)) k0 bel lt0) (trodAll_cons_mk (Below.trod laidOut (by kernel_rfl) (of_decide_eq_true (by kernel_rfl)) k1 bel lt1) trodAll_mk0)), rfl, bel.frame _, fun h => by cases h⟩
theorem over : Rows.fnExactLayerRow.holds Try.pinned (OpenSpec.ofChange Rows.fnExactLayerSpec) :=
  OpenClaim.holds_of_wide 5 Try.f5 rfl rfl rfl rfl rfl rfl rfl ⟨rfl, rfl, rfl, rfl, rfl⟩ rfl rfl rfl rfl rfl (by kernel_rfl) Try.func5 (by kernel_rfl)
    (of_decide_eq_true (by kernel_rfl)) (by unfold Func.isWrapper; first | (rw [if_pos (by decide +kernel)]; kernel_rfl) | (rw [if_neg (by decide +kernel)]; exact ⟨rfl, rfl⟩))
    (fun os started H enc _ => lifted os started H enc)
end Go.Proofs.Ytopoaemlbnkhgaa.lawLayer
namespace Go.Proofs.Ytopoaemlbnkhgaa
theorem FnExactLayer_holds : Rows.FnExactLayerSaid := lawLayer.over
#print axioms FnExactLayer_holds
end Go.Proofs.Ytopoaemlbnkhgaa
