/- The law FnExactBare: for every graph the program's Bare returns what the reference's returns, leaves its argument as it was, and shares no memory with it or with another call's result. No conditions. -/
import Derived.Test.YtopoaemlbnkhgaaG20
import Derived.Test.YtopoaemlbnkhgaaX1
import Derived.Test.YtopoaemlbnkhgaaS2
namespace Go.Proofs.Ytopoaemlbnkhgaa.lawBare
open Go Go.Pm Go.Proofs Go.Proofs.Ytopoaemlbnkhgaa
set_option linter.unusedVariables false
set_option linter.unusedSimpArgs false
open Go.ChangeShapes Go.WideShapes Go.ChangeAt Go.RowKit
theorem bool_iff {a b : Bool} {p : Prop} (h1 : a = true ↔ p) (h2 : b = true ↔ p) : a = b := by
  cases a <;> cases b <;> simp_all
theorem lead_eq {n : Nat} {l : List Ed} (he : ∀ e ∈ l, edIn n e = true) (i : Nat) (h : i < l.length) : hasI (waysL n (l.eraseIdx i) (erase_in he i) [l[i].1] []) l[i].2 = !(fun i => !leadS l n i) i := by
  have e1 : exc (i : Int) 0 l = l.eraseIdx i := by simpa using exc_at l 0 i
  have e2 : leadS l n i = hasI (rnds (l.eraseIdx i) n (marks (nexts l[i].1 (l.eraseIdx i)) [])) l[i].2 := by
    unfold leadS
    rw [e1]
    simp [List.getD, h]
  simp only [e2, Bool.not_not]
  exact bool_iff (ways_way (erase_in he i) l[i].1 l[i].2) (reach_way (erase_in he i) l[i].1 l[i].2)
set_option maxRecDepth 100000 in
set_option maxHeartbeats 4000000 in
theorem e9 (fn : Func) (hr : fn.results = #[.tmp 2]) (n : Int) (l : List Ed) (hl : l.length ≤ 9223372036854775807) : lim C0 9 fn [.c (code Try.f9)] ⟨number [grTV false n l] 0, []⟩ = some (tf true, []) := by
  have hp10 := plan9_10
  simp [opsOf, code, Try.f9] at hp10
  have h14 := p24 false false n l 1048576 (by omega) (by omega) hl
  simp at h14
  simp [code, Try.f9, hr, hp10, h14]
  (first | refine ifL_cases (fun h => ?_) (fun h => ?_) | refine gI_cases' (fun h => ?_) (fun h => ?_) | refine gI_cases (fun h => ?_) (fun h => ?_) | refine dI_cases' (fun h => ?_) (fun h => ?_) | refine dI_cases (fun h => ?_) (fun h => ?_)) <;> first | replace h := of_decide_eq_true h | replace h := of_decide_eq_false h | skip
  · simp [*]
  have t1 : l.length ≤ 1048576 := by grind [szL]
  have t3 : l.length ≤ 4611686018427387904 := by omega
  have q1 := fun b => p26 b n l t1
  have q5 := fun b b' n n' k l h => p28 b b' n n' k l h
  have q7 := fun n l k h h' => p33 n l k h h'
  have q9 := fun b m n k h h' => p35 b m n k h h'
  have w1 : ¬ (1 + 2 * (l.length : Int)) < 0 := by omega
  cases hg : gOk n l
  · have q3 := fun b => p40_no b n l t1 hg
    have q4 := fun b => p20_no b n l t1 hg
    simp only [grTV] at q1 q3 q4 q5 q7 q9
    have r7 := q7 n l 1 (by omega) (by omega)
    have r8 := q7 0 [] 1 (by omega) (by simp)
    have r5 := fun b => q5 b false 0 0 [] [] (by simp)
    have r9 := fun b => q9 b 0 0 1 (by omega) (by simp)
    simp at q3 q4 r5 r8 r9
    simp [*]
  · obtain ⟨m, rfl, hm20, hl400, hch⟩ := gOk_n hg
    have he : ∀ e ∈ l, edIn m e = true := fun e h => gChk_in hch e h
    by_cases ho : m ≤ (ordL m l []).length
    · have q3 := fun b => p40 b m l hm20 hl400 hg hch ho
      have q4 := fun b => p20 b m l (fun i => !leadS l m i) hm20 hl400 hg he ho (lead_eq he)
      have hlen := bareL_len (fun i => !leadS l m i) l l.length
      generalize bareL (fun i => !leadS l m i) l l.length = ol at *
      simp only [grTV] at q1 q3 q4 q5 q7 q9
      have r7 := q7 m l 1 (by omega) (by omega)
      have r8 := q7 m ol 1 (by omega) (by omega)
      have r9 := fun b => q9 b m ol.length 1 (by omega) (by omega)
      have t6 : ol.length ≤ 4611686018427387904 := by omega
      have w2 : ¬ (1 + 2 * (ol.length : Int)) < 0 := by omega
      clear hlen ho
      simp [*]
    · have q3 := fun b => p40_ring b m l hm20 hl400 hg hch (by omega)
      have q4 := fun b => p20_ring b m l hl400 hg (by omega)
      simp only [grTV] at q1 q3 q4 q5 q7 q9
      have r7 := q7 m l 1 (by omega) (by omega)
      have r8 := q7 0 [] 1 (by omega) (by simp)
      have r5 := fun b => q5 b false 0 0 [] [] (by simp)
      have r9 := fun b => q9 b 0 0 1 (by omega) (by simp)
      simp at q3 q4 r5 r8 r9
      clear ho
      simp [*]
theorem p9 (n : Int) (l : List Ed) (hl : l.length ≤ 9223372036854775807) : phi C0 (lim C0) 9 [grTV false n l] [] = some (tf true, []) := call0 Try.func9 (by kernel_rfl) (e9 Try.f9 Try.results9 n l hl)
theorem run_ok (ps : List PV) (h : Shape C0 8 47 ps) : ∃ out, lim C0 9 Try.f9 [.c (code Try.f9)] ⟨number [argTV true ps] 0, []⟩ = some (tf true, out) := by
  obtain ⟨n, l, rfl, h1⟩ := graph_of h
  exact ⟨[], e9 Try.f9 Try.results9 n l h1⟩
set_option maxRecDepth 100000 in
theorem lifted (os : Os) (started : os.Started) (H : Type) (enc : TypeId × Value → H) :
    ReturnsInHanded {} Try.checked os 9 .any (Rows.fnExactBareSpec.pre6 enc Try.prog Try.f9 Rows.fnExactBareRow.domain false) (Rows.fnExactBareSpec.post enc Try.prog Try.f9 false true false false) := by
  refine returnsInHanded_of_change_sized (C := Try.checked) own started (by kernel_rfl) Try.func9
    (ChangeSpec.witness6 (enc := enc) (C := Try.checked) false ⟨#[], #[.agg #[.int .i64 0, .slice none 0 0]], []⟩ 8 (by kernel_rfl) (by kernel_rfl) (by kernel_rfl) (by kernel_rfl)) ?_
  intro W base args ds gs before hval0 hW hcnd hsz0 _
  have hval : ∀ (j : Nat) t v, Try.f9.params[j]? = some t → args[j]? = some v → Value.okWide Try.prog W .any base t v := hval0
  have hW' := hW
  obtain ⟨p, q, hA0, hV, rfl, hfz, hnd⟩ := hW
  have hA : DataW.TrodAll enc Try.prog W 0 (fun _ => true) true Try.f9.params.toList args.toList ds p := hA0
  rw [Try.params9] at hA hval
  obtain ⟨v0, vs0, d0, ds0, p0, q0, hargs, rfl, rfl, h0, r0⟩ := trodAll_cons hA
  obtain ⟨rfl, rfl, rfl⟩ := trodAll_nil r0
  obtain rfl : args = #[v0] := by cases args; simp_all
  obtain ⟨rfl, rfl⟩ := trodVars_none hV
  have k0 := h0
  have lt0 : ∀ x ∈ p0, x.block < W.heap.size := by obtain ⟨m, hm⟩ := k0; exact DataW.trod_lt m _ _ _ hm
  obtain ⟨ps0, s0, z0⟩ := arg_rep (enc := enc) (C := C0) (W := W) (v := v0) tabOk (t := 47) (ti := ⟨2, 32, .struct [(0, 3), (1, 45)], .ag [.pv false (.sc (.int .i64 0)), .nl]⟩) (n := 8) (by kernel_rfl) (by kernel_rfl) (hval 0 47 v0 rfl rfl) h0
  obtain ⟨out, hl⟩ := run_ok ps0 s0
  have hcall := law_calls prog_ok (g := 9) (gn := Try.f9) Try.func9 (by rfl) hl (W := W) (vs := #[v0]) rfl (fun j t hj => by
    cases j with
    | zero => simp at hj; subst hj; exact z0
    | succ j =>
      simp at hj)
  refine hcall.mono fun e W' ⟨he, bel⟩ => ?_
  subst he
  exact ⟨_, rfl, _, _, _, [], _, [], hW', trodAll_mk1 (shut_bool Try.underlying4 _), (trodAll_cons_mk (Below.trod laidOut (by kernel_rfl) (of_decide_eq_true (by kernel_rfl)) k0 bel lt0) trodAll_mk0), rfl, bel.frame _, fun h => by cases h⟩
theorem over : Rows.fnExactBareRow.holds Try.pinned (OpenSpec.ofChange Rows.fnExactBareSpec) :=
  OpenClaim.holds_of_wide 9 Try.f9 rfl rfl rfl rfl rfl rfl rfl ⟨rfl, rfl, rfl, rfl, rfl⟩ rfl rfl rfl rfl rfl (by kernel_rfl) Try.func9 (by kernel_rfl)
    (of_decide_eq_true (by kernel_rfl)) (by unfold Func.isWrapper; first | (rw [if_pos (by decide +kernel)]; kernel_rfl) | (rw [if_neg (by decide +kernel)]; exact ⟨rfl, rfl⟩))
    (fun os started H enc _ => lifted os started H enc)
end Go.Proofs.Ytopoaemlbnkhgaa.lawBare
namespace Go.Proofs.Ytopoaemlbnkhgaa
theorem FnExactBare_holds : Rows.FnExactBareSaid := lawBare.over
#print axioms FnExactBare_holds
end Go.Proofs.Ytopoaemlbnkhgaa
