/- The law FnExactOrder: for every graph the program's Order returns what the reference's returns, leaves its argument as it was, and shares no memory with it or with another call's result. No conditions. -/
import Derived.Test.YtopoaemlbnkhgaaG8
import Derived.Test.YtopoaemlbnkhgaaS2
namespace Go.Proofs.Ytopoaemlbnkhgaa.lawOrder
open Go Go.Pm Go.Proofs Go.Proofs.Ytopoaemlbnkhgaa
set_option linter.unusedVariables false
set_option linter.unusedSimpArgs false
open Go.ChangeShapes Go.WideShapes Go.ChangeAt Go.RowKit
theorem ordL_len {n : Nat} {l : List Ed} (out : List Int) (h : out.length + left out n = n) : (ordL n l out).length ≤ n := by
  generalize hm : left out n = m
  induction m using Nat.strongRecOn generalizing out with
  | ind m ih =>
    by_cases hk : nextU out l n n 0 < n
    · rcases nextU_eq (out := out) (l := l) (n := n) n 0 (by omega) with ⟨h5, h6⟩ | ⟨h5, h6, h7, h8⟩
      · omega
      · have hl := left_lt (free_not h7) n h6
        rw [ordL_some rfl hk]
        exact ih _ (by omega) _ (by simp; omega) rfl
    · rw [ordL_none hk]; omega
set_option maxRecDepth 100000 in
set_option maxHeartbeats 4000000 in
theorem e7 (fn : Func) (hr : fn.results = #[.tmp 2]) (n : Int) (l : List Ed) (hl : l.length ≤ 9223372036854775807) : lim C0 7 fn [.c (code Try.f7)] ⟨number [grTV false n l] 0, []⟩ = some (tf true, []) := by
  have hp10 := plan7_10
  simp [opsOf, code, Try.f7] at hp10
  have h14 := p24 false false n l 1048576 (by omega) (by omega) hl
  simp at h14
  simp [code, Try.f7, hr, hp10, h14]
  (first | refine ifL_cases (fun h => ?_) (fun h => ?_) | refine gI_cases' (fun h => ?_) (fun h => ?_) | refine gI_cases (fun h => ?_) (fun h => ?_) | refine dI_cases' (fun h => ?_) (fun h => ?_) | refine dI_cases (fun h => ?_) (fun h => ?_)) <;> first | replace h := of_decide_eq_true h | replace h := of_decide_eq_false h | skip
  · simp [*]
  have t1 : l.length ≤ 1048576 := by grind [szL]
  have t3 : l.length ≤ 4611686018427387904 := by omega
  have q1 := fun b => p26 b n l t1
  have q3 := fun b => p36 b n l t1
  have q4 := fun b => p21 b n l t1
  have q5 := fun b b' n n' k l h => p28 b b' n n' k l h
  have q6 := fun b b' k l h => p32 b b' k l h
  have q7 := p33 n l 1 (by omega) (by omega)
  have q8 := p34
  have q9 := p37
  have w1 : ¬ (1 + 2 * (l.length : Int)) < 0 := by omega
  simp only [grTV] at q1 q3 q4 q5 q7
  by_cases hg : (gOk n l && decide (n ≤ (ordL n.toNat l []).length)) = true
  · have hlen : (ordL n.toNat l []).length ≤ 20 := by
      have h1 := (Bool.and_eq_true _ _ ▸ hg : _ ∧ _).1
      obtain ⟨m, rfl, h2, _, _⟩ := gOk_n h1
      have := ordL_len (n := m) (l := l) [] (by simp)
      simp; omega
    generalize hol : ordL n.toNat l [] = ol at *
    simp only [hg, if_true] at q3 q4
    have r8 := q8 ol 1 (by omega) (by omega)
    have r9 := fun b => q9 b ol.length 1 (by omega) (by omega)
    have t6 : ol.length ≤ 4611686018427387904 := by omega
    have w2 : ¬ (1 + (ol.length : Int)) < 0 := by omega
    simp [*]
  · simp only [hg] at q3 q4
    have q6 := fun b => q6 b false [] [] (by simp)
    have r8 := q8 [] 1 (by omega) (by simp)
    have r9 := fun b => q9 b 0 1 (by omega) (by simp)
    simp at q3 q4 q6 r8 r9
    simp [*]
theorem p7 (n : Int) (l : List Ed) (hl : l.length ≤ 9223372036854775807) : phi C0 (lim C0) 7 [grTV false n l] [] = some (tf true, []) := call0 Try.func7 (by kernel_rfl) (e7 Try.f7 Try.results7 n l hl)
theorem run_ok (ps : List PV) (h : Shape C0 8 47 ps) : ∃ out, lim C0 7 Try.f7 [.c (code Try.f7)] ⟨number [argTV true ps] 0, []⟩ = some (tf true, out) := by
  obtain ⟨n, l, rfl, h1⟩ := graph_of h
  exact ⟨[], e7 Try.f7 Try.results7 n l h1⟩
set_option maxRecDepth 100000 in
theorem lifted (os : Os) (started : os.Started) (H : Type) (enc : TypeId × Value → H) :
    ReturnsInHanded {} Try.checked os 7 .any (Rows.fnExactOrderSpec.pre6 enc Try.prog Try.f7 Rows.fnExactOrderRow.domain false) (Rows.fnExactOrderSpec.post enc Try.prog Try.f7 false true false false) := by
  refine returnsInHanded_of_change_sized (C := Try.checked) own started (by kernel_rfl) Try.func7
    (ChangeSpec.witness6 (enc := enc) (C := Try.checked) false ⟨#[], #[.agg #[.int .i64 0, .slice none 0 0]], []⟩ 8 (by kernel_rfl) (by kernel_rfl) (by kernel_rfl) (by kernel_rfl)) ?_
  intro W base args ds gs before hval0 hW hcnd hsz0 _
  have hval : ∀ (j : Nat) t v, Try.f7.params[j]? = some t → args[j]? = some v → Value.okWide Try.prog W .any base t v := hval0
  have hW' := hW
  obtain ⟨p, q, hA0, hV, rfl, hfz, hnd⟩ := hW
  have hA : DataW.TrodAll enc Try.prog W 0 (fun _ => true) true Try.f7.params.toList args.toList ds p := hA0
  rw [Try.params7] at hA hval
  obtain ⟨v0, vs0, d0, ds0, p0, q0, hargs, rfl, rfl, h0, r0⟩ := trodAll_cons hA
  obtain ⟨rfl, rfl, rfl⟩ := trodAll_nil r0
  obtain rfl : args = #[v0] := by cases args; simp_all
  obtain ⟨rfl, rfl⟩ := trodVars_none hV
  have k0 := h0
  have lt0 : ∀ x ∈ p0, x.block < W.heap.size := by obtain ⟨m, hm⟩ := k0; exact DataW.trod_lt m _ _ _ hm
  obtain ⟨ps0, s0, z0⟩ := arg_rep (enc := enc) (C := C0) (W := W) (v := v0) tabOk (t := 47) (ti := ⟨2, 32, .struct [(0, 3), (1, 45)], .ag [.pv false (.sc (.int .i64 0)), .nl]⟩) (n := 8) (by kernel_rfl) (by kernel_rfl) (hval 0 47 v0 rfl rfl) h0
  obtain ⟨out, hl⟩ := run_ok ps0 s0
  have hcall := law_calls prog_ok (g := 7) (gn := Try.f7) Try.func7 (by rfl) hl (W := W) (vs := #[v0]) rfl (fun j t hj => by
    cases j with
    | zero => simp at hj; subst hj; exact z0
    | succ j =>
      simp at hj)
  refine hcall.mono fun e W' ⟨he, bel⟩ => ?_
  subst he
  exact ⟨_, rfl, _, _, _, [], _, [], hW', trodAll_mk1 (shut_bool Try.underlying4 _), (trodAll_cons_mk (Below.trod laidOut (by kernel_rfl) (of_decide_eq_true (by kernel_rfl)) k0 bel lt0) trodAll_mk0), rfl, bel.frame _, fun h => by cases h⟩
theorem over : Rows.fnExactOrderRow.holds Try.pinned (OpenSpec.ofChange Rows.fnExactOrderSpec) :=
  OpenClaim.holds_of_wide 7 Try.f7 rfl rfl rfl rfl rfl rfl rfl ⟨rfl, rfl, rfl, rfl, rfl⟩ rfl rfl rfl rfl rfl (by kernel_rfl) Try.func7 (by kernel_rfl)
    (of_decide_eq_true (by kernel_rfl)) (by unfold Func.isWrapper; first | (rw [if_pos (by decide +kernel)]; kernel_rfl) | (rw [if_neg (by decide +kernel)]; exact ⟨rfl, rfl⟩))
    (fun os started H enc _ => lifted os started H enc)
end Go.Proofs.Ytopoaemlbnkhgaa.lawOrder
namespace Go.Proofs.Ytopoaemlbnkhgaa
theorem FnExactOrder_holds : Rows.FnExactOrderSaid := lawOrder.over
#print axioms FnExactOrder_holds
end Go.Proofs.Ytopoaemlbnkhgaa
