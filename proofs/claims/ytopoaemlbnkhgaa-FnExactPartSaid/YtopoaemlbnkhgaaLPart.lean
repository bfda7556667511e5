/- The law FnExactPart: for every graph and every list of vertices the program's Part returns what the reference's returns, leaves its arguments as they were, and shares no memory with them or with another call's result. No conditions. -/
import Derived.Test.YtopoaemlbnkhgaaG4
import Derived.Test.YtopoaemlbnkhgaaS2
namespace Go.Proofs.Ytopoaemlbnkhgaa.lawPart
open Go Go.Pm Go.Proofs Go.Proofs.Ytopoaemlbnkhgaa
open Go.ChangeShapes Go.WideShapes Go.ChangeAt Go.RowKit
theorem keepE_len (p : List Int) : ∀ l : List Ed, (keepE p l).length ≤ l.length
  | [] => Nat.le_refl _
  | e :: l => by
    have ih := keepE_len p l
    simp only [keepE]
    cases (hasI p e.1 && hasI p e.2) <;> simp <;> omega
set_option maxRecDepth 100000 in
set_option maxHeartbeats 4000000 in
theorem e6 (fn : Func) (hr : fn.results = #[.tmp 4]) (n : Int) (l : List Ed) (p : List Int) (hl : l.length ≤ 9223372036854775807) (hp : p.length ≤ 9223372036854775807) : lim C0 6 fn [.c (code Try.f6)] ⟨number [grTV false n l, .pv false (.sl (nums .i64 p))] 0, []⟩ = some (tf true, []) := by
  have hp13 := plan6_13
  simp [opsOf, code, Try.f6] at hp13
  have h14 := p24 false false n l 1048576 (by omega) (by omega) hl
  simp at h14
  simp [code, Try.f6, hr, hp13, h14]
  (first | refine ifL_cases (fun h => ?_) (fun h => ?_) | refine gI_cases' (fun h => ?_) (fun h => ?_) | refine gI_cases (fun h => ?_) (fun h => ?_) | refine dI_cases' (fun h => ?_) (fun h => ?_) | refine dI_cases (fun h => ?_) (fun h => ?_)) <;> first | replace h := of_decide_eq_true h | replace h := of_decide_eq_false h | skip
  · simp [*]
  simp [h14]
  (first | refine ifL_cases (fun h => ?_) (fun h => ?_) | refine gI_cases' (fun h => ?_) (fun h => ?_) | refine gI_cases (fun h => ?_) (fun h => ?_) | refine dI_cases' (fun h => ?_) (fun h => ?_) | refine dI_cases (fun h => ?_) (fun h => ?_)) <;> first | replace h := of_decide_eq_true h | replace h := of_decide_eq_false h | skip
  · simp [*]
  have t1 : l.length ≤ 1048576 := by grind [szL]
  have t2 : p.length ≤ 1048576 := by omega
  have t3 : l.length ≤ 4611686018427387904 := by omega
  have t4 : p.length ≤ 4611686018427387904 := by omega
  have t5 := keepE_len p l
  have t6 : (keepE p l).length ≤ 4611686018427387904 := by omega
  have q1 := fun b => p26 b n l t1
  have q2 := fun b => p30 b p t2
  have q3 := fun b b' => p29 b b' n l p t1 t2
  have q4 := fun b b' => p31 b b' n l p t1 t2
  have q5 := fun b b' n n' k l h => p28 b b' n n' k l h
  have q6 := fun b b' k l h => p32 b b' k l h
  have q7 := fun n l k h h' => p33 n l k h h'
  have q8 := fun l k h h' => p34 l k h h'
  have q9 := fun b m n k h h' => p35 b m n k h h'
  simp only [grTV] at q1 q3 q4 q5 q7 q9
  have q7' := q7
  have q7 := q7 n l 1 (by omega) (by omega)
  have q8 := q8 p (1 + 2 * l.length) (by omega) (by omega)
  have w1 : ¬ (1 + 2 * (l.length : Int) + p.length) < 0 := by omega
  by_cases hg : (gOk n l && decide (p.length ≤ 20)) = true
  · simp only [hg, if_true] at q3 q4
    have r7 := q7' n (keepE p l) 1 (by omega) (by omega)
    have r9 := fun b => q9 b n (keepE p l).length 1 (by omega) (by omega)
    have w2 : ¬ (1 + 2 * ((keepE p l).length : Int)) < 0 := by omega
    simp [*]
  · simp only [hg] at q3 q4
    have q5 := fun b => q5 b false 0 0 [] [] (by simp)
    have r7 := q7' 0 [] 1 (by omega) (by simp)
    have r9 := fun b => q9 b 0 0 1 (by omega) (by simp)
    simp at q3 q4 q5 r7 r9
    simp [*]
theorem p6 (n : Int) (l : List Ed) (p : List Int) (hl : l.length ≤ 9223372036854775807) (hp : p.length ≤ 9223372036854775807) : phi C0 (lim C0) 6 [grTV false n l, .pv false (.sl (nums .i64 p))] [] = some (tf true, []) := call0 Try.func6 (by kernel_rfl) (e6 Try.f6 Try.results6 n l p hl hp)
theorem run_ok (ps qs : List PV) (h : Shape C0 8 47 ps) (h' : Shape C0 8 23 qs) : ∃ out, lim C0 6 Try.f6 [.c (code Try.f6)] ⟨number [argTV true ps, argTV false qs] 0, []⟩ = some (tf true, out) := by
  obtain ⟨n, l, rfl, h1⟩ := graph_of h
  obtain ⟨p, rfl, h2⟩ := ints_of h'
  exact ⟨[], e6 Try.f6 Try.results6 n l p h1 h2⟩
set_option maxRecDepth 100000 in
theorem lifted (os : Os) (started : os.Started) (H : Type) (enc : TypeId × Value → H) :
    ReturnsInHanded {} Try.checked os 6 .any (Rows.fnExactPartSpec.pre6 enc Try.prog Try.f6 Rows.fnExactPartRow.domain false) (Rows.fnExactPartSpec.post enc Try.prog Try.f6 false true false false) := by
  refine returnsInHanded_of_change_sized (C := Try.checked) own started (by kernel_rfl) Try.func6
    (ChangeSpec.witness6 (enc := enc) (C := Try.checked) false ⟨#[], #[.agg #[.int .i64 0, .slice none 0 0], .slice none 0 0], []⟩ 8 (by kernel_rfl) (by kernel_rfl) (by kernel_rfl) (by kernel_rfl)) ?_
  intro W base args ds gs before hval0 hW hcnd hsz0 _
  have hval : ∀ (j : Nat) t v, Try.f6.params[j]? = some t → args[j]? = some v → Value.okWide Try.prog W .any base t v := hval0
  have hW' := hW
  obtain ⟨p, q, hA0, hV, rfl, hfz, hnd⟩ := hW
  have hA : DataW.TrodAll enc Try.prog W 0 (fun _ => true) true Try.f6.params.toList args.toList ds p := hA0
  rw [Try.params6] at hA hval
  obtain ⟨v0, vs0, d0, ds0, p0, q0, hargs, rfl, rfl, h0, r0⟩ := trodAll_cons hA
  obtain ⟨v1, vs1, d1, ds1, p1, q1, rfl, rfl, rfl, h1, r1⟩ := trodAll_cons r0
  obtain ⟨rfl, rfl, rfl⟩ := trodAll_nil r1
  obtain rfl : args = #[v0, v1] := by cases args; simp_all
  obtain ⟨rfl, rfl⟩ := trodVars_none hV
  have k0 := h0
  have lt0 : ∀ x ∈ p0, x.block < W.heap.size := by obtain ⟨m, hm⟩ := k0; exact DataW.trod_lt m _ _ _ hm
  obtain ⟨ps0, s0, z0⟩ := arg_rep (enc := enc) (C := C0) (W := W) (v := v0) tabOk (t := 47) (ti := ⟨2, 32, .struct [(0, 3), (1, 45)], .ag [.pv false (.sc (.int .i64 0)), .nl]⟩) (n := 8) (by kernel_rfl) (by kernel_rfl) (hval 0 47 v0 rfl rfl) h0
  have k1 := h1
  have lt1 : ∀ x ∈ p1, x.block < W.heap.size := by obtain ⟨m, hm⟩ := k1; exact DataW.trod_lt m _ _ _ hm
  obtain ⟨ps1, s1, z1⟩ := arg_rep (enc := enc) (C := C0) (W := W) (v := v1) tabOk (t := 23) (ti := ⟨1, 24, .slice 3, .nl⟩) (n := 8) (by kernel_rfl) (by kernel_rfl) (hval 1 23 v1 rfl rfl) h1
  obtain ⟨out, hl⟩ := run_ok ps0 ps1 s0 s1
  have hcall := law_calls prog_ok (g := 6) (gn := Try.f6) Try.func6 (by rfl) hl (W := W) (vs := #[v0, v1]) rfl (fun j t hj => by
    cases j with
    | zero => simp at hj; subst hj; exact z0
    | succ j =>
      cases j with
      | zero => simp at hj; subst hj; exact z1
      | succ j =>
        simp at hj)
  refine hcall.mono fun e W' ⟨he, bel⟩ => ?_
  subst he
  exact ⟨_, rfl, _, _, _, [], _, [], hW', trodAll_mk1 (shut_bool Try.underlying4 _), (trodAll_cons_mk (Below.trod laidOut (by kernel_rfl) (of_decide_eq_true (by kernel_rfl)) k0 bel lt0) (trodAll_cons_mk (Below.trod laidOut (by kernel_rfl) (of_decide_eq_true (by kernel_rfl)) k1 bel lt1) trodAll_mk0)), rfl, bel.frame _, fun h => by cases h⟩
theorem over : Rows.fnExactPartRow.holds Try.pinned (OpenSpec.ofChange Rows.fnExactPartSpec) :=
  OpenClaim.holds_of_wide 6 Try.f6 rfl rfl rfl rfl rfl rfl rfl ⟨rfl, rfl, rfl, rfl, rfl⟩ rfl rfl rfl rfl rfl (by kernel_rfl) Try.func6 (by kernel_rfl)
    (of_decide_eq_true (by kernel_rfl)) (by unfold Func.isWrapper; first | (rw [if_pos (by decide +kernel)]; kernel_rfl) | (rw [if_neg (by decide +kernel)]; exact ⟨rfl, rfl⟩))
    (fun os started H enc _ => lifted os started H enc)
end Go.Proofs.Ytopoaemlbnkhgaa.lawPart
namespace Go.Proofs.Ytopoaemlbnkhgaa
theorem FnExactPart_holds : Rows.FnExactPartSaid := lawPart.over
#print axioms FnExactPart_holds
end Go.Proofs.Ytopoaemlbnkhgaa
