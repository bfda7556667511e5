/- The law FnExactCmdOk: for every command the program's CmdOk returns what the reference's returns, and leaves its argument as it was. No conditions. -/
import Derived.Test.YtopoaemlbnkhgaaA1
import Derived.Test.YtopoaemlbnkhgaaS1
namespace Go.Proofs.Ytopoaemlbnkhgaa.lawCmdOk
open Go Go.Pm Go.Proofs Go.Proofs.Ytopoaemlbnkhgaa
open Go.ChangeShapes Go.WideShapes Go.ChangeAt Go.RowKit
theorem cmd_of {ps : List PV} (h : Shape C0 8 25 ps) : ∃ k t n a, ps = [.sc (.int .i64 k), .sl (nums .u8 t), .sc (.int .i64 n), .sl (nums .i64 a)] ∧ t.length ≤ 9223372036854775807 ∧ a.length ≤ 9223372036854775807 := by
  simp only [Shape, C0_T, tyT25, ShapeFs, tyT3, tyT22, tyT23] at h
  obtain ⟨_, _, rfl, ⟨k, rfl, _⟩, _, _, rfl, ⟨rows, rfl, h1, h2⟩, _, _, rfl, ⟨n, rfl, _⟩, _, _, rfl, ⟨rows', rfl, h3, h4⟩, rfl⟩ := h
  obtain ⟨t, rfl⟩ := nums_of (n := 6) (e := 5) tyT5 h2
  obtain ⟨a, rfl⟩ := nums_of (n := 6) (e := 3) tyT3 h4
  exact ⟨k, t, n, a, rfl, by simpa [maxLen] using h1, by simpa [maxLen] using h3⟩
theorem run_ok (ps : List PV) (h : Shape C0 8 25 ps) : ∃ out, lim C0 3 Try.f3 [.c (code Try.f3)] ⟨number [argTV true ps] 0, []⟩ = some (tf true, out) := by
  obtain ⟨k, t, n, a, rfl, h1, h2⟩ := cmd_of h
  exact ⟨[], e3 Try.f3 Try.results3 k t n a h1 h2⟩
set_option maxRecDepth 100000 in
theorem lifted (os : Os) (started : os.Started) (H : Type) (enc : TypeId × Value → H) :
    ReturnsInHanded {} Try.checked os 3 .any (Rows.fnExactCmdOkSpec.pre6 enc Try.prog Try.f3 Rows.fnExactCmdOkRow.domain false) (Rows.fnExactCmdOkSpec.post enc Try.prog Try.f3 false true false false) := by
  refine returnsInHanded_of_change_sized (C := Try.checked) own started (by kernel_rfl) Try.func3
    (ChangeSpec.witness6 (enc := enc) (C := Try.checked) false ⟨#[], #[.agg #[.int .i64 0, .slice none 0 0, .int .i64 0, .slice none 0 0]], []⟩ 8 (by kernel_rfl) (by kernel_rfl) (by kernel_rfl) (by kernel_rfl)) ?_
  intro W base args ds gs before hval0 hW hcnd hsz0 _
  have hval : ∀ (j : Nat) t v, Try.f3.params[j]? = some t → args[j]? = some v → Value.okWide Try.prog W .any base t v := hval0
  have hW' := hW
  obtain ⟨p, q, hA0, hV, rfl, hfz, hnd⟩ := hW
  have hA : DataW.TrodAll enc Try.prog W 0 (fun _ => true) true Try.f3.params.toList args.toList ds p := hA0
  rw [Try.params3] at hA hval
  obtain ⟨v0, vs0, d0, ds0, p0, q0, hargs, rfl, rfl, h0, r0⟩ := trodAll_cons hA
  obtain ⟨rfl, rfl, rfl⟩ := trodAll_nil r0
  obtain rfl : args = #[v0] := by cases args; simp_all
  obtain ⟨rfl, rfl⟩ := trodVars_none hV
  have k0 := h0
  have lt0 : ∀ x ∈ p0, x.block < W.heap.size := by obtain ⟨m, hm⟩ := k0; exact DataW.trod_lt m _ _ _ hm
  obtain ⟨ps0, s0, z0⟩ := arg_rep (enc := enc) (C := C0) (W := W) (v := v0) tabOk (t := 25) (ti := ⟨4, 64, .struct [(0, 3), (1, 22), (2, 3), (3, 23)], .ag [.pv false (.sc (.int .i64 0)), .nl, .pv false (.sc (.int .i64 0)), .nl]⟩) (n := 8) (by kernel_rfl) (by kernel_rfl) (hval 0 25 v0 rfl rfl) h0
  obtain ⟨out, hl⟩ := run_ok ps0 s0
  have hcall := law_calls prog_ok (g := 3) (gn := Try.f3) Try.func3 (by rfl) hl (W := W) (vs := #[v0]) rfl (fun j t hj => by
    cases j with
    | zero => simp at hj; subst hj; exact z0
    | succ j =>
      simp at hj)
  refine hcall.mono fun e W' ⟨he, bel⟩ => ?_
  subst he
  exact ⟨_, rfl, _, _, _, [], _, [], hW', trodAll_mk1 (shut_bool Try.underlying4 _), (trodAll_cons_mk (Below.trod laidOut (by kernel_rfl) (of_decide_eq_true (by kernel_rfl)) k0 bel lt0) trodAll_mk0), rfl, bel.frame _, fun h => by cases h⟩
theorem over : Rows.fnExactCmdOkRow.holds Try.pinned (OpenSpec.ofChange Rows.fnExactCmdOkSpec) :=
  OpenClaim.holds_of_wide 3 Try.f3 rfl rfl rfl rfl rfl rfl rfl ⟨rfl, rfl, rfl, rfl, rfl⟩ rfl rfl rfl rfl rfl (by kernel_rfl) Try.func3 (by kernel_rfl)
    (of_decide_eq_true (by kernel_rfl)) (by unfold Func.isWrapper; first | (rw [if_pos (by decide +kernel)]; kernel_rfl) | (rw [if_neg (by decide +kernel)]; exact ⟨rfl, rfl⟩))
    (fun os started H enc _ => lifted os started H enc)
end Go.Proofs.Ytopoaemlbnkhgaa.lawCmdOk
namespace Go.Proofs.Ytopoaemlbnkhgaa
theorem FnExactCmdOk_holds : Rows.FnExactCmdOkSaid := lawCmdOk.over
#print axioms FnExactCmdOk_holds
end Go.Proofs.Ytopoaemlbnkhgaa
