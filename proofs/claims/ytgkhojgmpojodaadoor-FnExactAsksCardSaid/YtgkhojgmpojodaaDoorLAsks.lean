/- The law FnExactAsks: for every plan the program's Asks returns what the reference's returns, and leaves its argument as it was. Conditions: none beyond the row's own (the listed package-level variables hold what the program's text lays them to). -/
import Derived.Test.YtgkhojgmpojodaaDoorV12
import Derived.Test.YtgkhojgmpojodaaDoorXD
import Derived.Test.YtgkhojgmpojodaaDoorS3
import Derived.Test.YtgkhojgmpojodaaDoorCards
import Derived.Test.YtgkhojgmpojodaaDoorTie
import Derived.ProofKit
import Derived.LaidMore
import Derived.OpenShut
import Derived.Stop.Joined
import Derived.SevenTiedAt
namespace Go.Proofs.YtgkhojgmpojodaaDoor.lawAsks
open Go Go.Pm Go.Proofs Go.Proofs.YtgkhojgmpojodaaDoor
set_option linter.unusedVariables false
set_option linter.unusedSimpArgs false
open Go.ChangeShapes Go.WideShapes Go.ChangeAt Go.RowKit
set_option maxRecDepth 100000 in
set_option maxHeartbeats 4000000 in
theorem e3 (fn : Func) (hr : fn.results = #[.tmp 2]) (l : List Act) (same : Int) (hl : l.length ≤ 9223372036854775807) (ha : ∀ a ∈ l, ABig a ∧ byteOk a.addr = true ∧ VBy a.val ∧ ∀ x ∈ a.deps, byteOk x = true) : lim C0 3 fn [.c (code Tryd.f3)] ⟨number [.ag [.pv false (.sl (rws aP l)), (.pv false (.sc (.int .i64 same)))]] 0, []⟩ = some (tf true, []) := by
  have hp10 := plan3_10
  simp [opsOf, code, Tryd.f3] at hp10
  have h14 := p4 false l same 1048576 (by omega) (by omega) hl (fun a h => (ha a h).1)
  simp [code, Tryd.f3, hr, hp10, h14]
  (first | refine ifL_cases (fun h => ?_) (fun h => ?_) | refine gI_cases' (fun h => ?_) (fun h => ?_) | refine gI_cases (fun h => ?_) (fun h => ?_) | refine dI_cases' (fun h => ?_) (fun h => ?_) | refine dI_cases (fun h => ?_) (fun h => ?_)) <;> first | replace h := of_decide_eq_true h | replace h := of_decide_eq_false h | skip
  · simp [hr]
  obtain ⟨t1, t2⟩ := szAA_ok (l := l) (left := 1048576) (by omega) (by omega) (by omega)
  have t3 : ∀ a ∈ l, ALen a ∧ AOk a := fun a h => ⟨t2 a h, ⟨(t2 a h).addr, (ha a h).2.1, (t2 a h).vl, (ha a h).2.2.1, by have := (t2 a h).vp; omega, (t2 a h).dl, (ha a h).2.2.2⟩⟩
  have q1 := fun b => p6 b l same t1 t2
  have q2 := fun b => p5 b l same t1 t3
  have q3 := fun b => p7 b l same t1 (fun a h => (t3 a h).2)
  have q4 := fun b b' => p8 b b' l same t1 t2
  generalize (if planB l same = true then (l.length : Int) else 0) = r at *
  simp [q1, q2, q3, q4, hr, hp10]
theorem p3 (l : List Act) (same : Int) (hl : l.length ≤ 9223372036854775807) (ha : ∀ a ∈ l, ABig a ∧ byteOk a.addr = true ∧ VBy a.val ∧ ∀ x ∈ a.deps, byteOk x = true) : phi C0 (lim C0) 3 [.ag [.pv false (.sl (rws aP l)), (.pv false (.sc (.int .i64 same)))]] [] = some (tf true, []) := call0 Tryd.func3 (by kernel_rfl) (e3 Tryd.f3 Tryd.results3 l same hl ha)
theorem run_ok {n : Nat} (ps : List PV) (h : Shape C0 n 24 ps) : ∃ out, lim C0 3 Tryd.f3 [.c (code Tryd.f3)] ⟨number [argTV true ps] 0, []⟩ = some (tf true, out) := by
  obtain ⟨l, same, rfl, h1, h2⟩ := plan_at h
  exact ⟨[], e3 Tryd.f3 Tryd.results3 l same h1 h2⟩
/-! ### what the listed variables hold -/
theorem iface_cell {P : Program} {w : World} {sp : Nat → Bool} {fuel : Nat} {t : TypeId} {cs : List Value} {n : String} {d : DataW Unit} {p : List MemPlace} {ms : Array (String × TypeId)} (ht : P.underlying t = some (.interface ms))
    (h : DataW.trod (fun _ => ()) P w 0 sp false fuel t cs = some (.iface n d, p)) : ∃ u v, cs = [.iface u v] := by
  cases fuel with
  | zero => cases h
  | succ fuel =>
    unfold DataW.trod at h
    rw [ht] at h
    match cs, h with
    | [.iface u v], _ => exact ⟨u, v, rfl⟩
    | [.nilIface], h => cases h
theorem of_laid {W : World} (h : laidMetH Tryd.prog Rows.fnExactAsksRow.laid W) : gw0 W ∧ Tryd.prog.globals.size ≤ W.heap.size := by
  rw [MakeChecks.laidMetH_plain _ _ _ (by kernel_rfl)] at h
  obtain ⟨ps, ⟨g0, t0, cs0, f0, p0, q0, hg0, ht0, hv0, hd0, ⟨g1, t1, cs1, f1, p1, q1, hg1, ht1, hv1, hd1, ⟨g2, t2, cs2, f2, p2, q2, hg2, ht2, hv2, hd2, ⟨g3, t3, cs3, f3, p3, q3, hg3, ht3, hv3, hd3, ⟨g4, t4, cs4, f4, p4, q4, hg4, ht4, hv4, hd4, _, _⟩, _⟩, _⟩, _⟩, _⟩, _⟩ := h
  obtain rfl := Option.some.inj ((show Tryd.prog.globalNamed "math/bits.deBruijn64tab" = some 5 by kernel_rfl).symm.trans hg1)
  obtain rfl := Option.some.inj ((show Tryd.prog.globalNamed "strconv.ErrRange" = some 2 by kernel_rfl).symm.trans hg3)
  obtain rfl := Option.some.inj ((show Tryd.prog.globalNamed "strconv.ErrSyntax" = some 1 by kernel_rfl).symm.trans hg4)
  obtain rfl := Option.some.inj ((show (Tryd.prog.globals[2]?).map (·.type) = some 76 by kernel_rfl).symm.trans ht3)
  obtain rfl := Option.some.inj ((show (Tryd.prog.globals[1]?).map (·.type) = some 76 by kernel_rfl).symm.trans ht4)
  have one : ∀ {cs : Array Value} {n : String} {d : DataW Unit} {p : List MemPlace} {fu : Nat}, DataW.trod (fun _ => ()) Tryd.prog W 0 (fun _ => true) false fu 76 cs.toList = some (.iface n d, p) → ∃ u v, cs = #[.iface u v] := fun h => by
    obtain ⟨u, v, e⟩ := iface_cell Tryd.underlying76 h
    exact ⟨u, v, Array.eq_one_of_toList e⟩
  obtain ⟨u3, v3, rfl⟩ := one hd3
  obtain ⟨u4, v4, rfl⟩ := one hd4
  refine ⟨⟨⟨u4, v4, hv4⟩, u3, v3, hv3⟩, ?_⟩
  have hb : 5 < W.heap.size := by
    unfold World.var? at hv1
    rw [hg1] at hv1
    simp only [Option.bind_some] at hv1
    by_cases hlt : 5 < W.heap.size
    · exact hlt
    · rw [Array.getElem?_eq_none (by omega)] at hv1
      cases hv1
  have hs : Tryd.prog.globals.size = 5 + 1 := by kernel_rfl
  omega
theorem own : ownKnob Tryd.prog.godebug = none := by kernel_rfl
theorem door_met (os : Os) (args : Array Value) : laidMetH Tryd.prog Rows.fnExactAsksRow.laid ((World.doorLaid Tryd.prog 400 os).forCall (fun _ _ => 0) ⟨#[], args, []⟩).memory :=
  laidMetH_of_parts3 (fuel := 8) (laidMet_of_run' 8 (by kernel_rfl) (by kernel_rfl)) (by kernel_rfl) (by kernel_rfl)
set_option maxRecDepth 100000 in
theorem lifted (os : Os) (started : os.Started) (H : Type) (enc : TypeId × Value → H) :
    ReturnsInHanded {} Tryd.checked os 3 .any (fun w args => (Rows.fnExactAsksSpec.pre enc Tryd.prog Tryd.f3 [] false w args ∧ laidMetH Tryd.prog Rows.fnExactAsksRow.laid w) ∧ sizedMet enc Tryd.prog Tryd.f3 (OpenSpec.ofChange Rows.fnExactAsksSpec) false w args)
      (Rows.fnExactAsksSpec.post enc Tryd.prog Tryd.f3 false true false false) := by
  refine returnsInHanded_of_change_and (C := Tryd.checked) (X := fun w _ => laidMetH Tryd.prog Rows.fnExactAsksRow.laid w) (fun _ _ _ hh h => h.of_heap hh) own started (by kernel_rfl) Tryd.func3
    (ChangeSpec.witness_shaped (enc := enc) (C := Tryd.checked) (os := os) (X := fun w _ => laidMetH Tryd.prog Rows.fnExactAsksRow.laid w) false (World.doorLaid Tryd.prog 400 os) #[.agg #[.slice none 0 0, .int .i64 0]] 8 rfl (World.shaped_of_RefB (by kernel_rfl) (by kernel_rfl)) (by kernel_rfl) (by kernel_rfl) (by kernel_rfl) (door_met os _)) ?_
  intro W base args ds gs before hval0 hW _ _ hL _
  have hval : ∀ (j : Nat) t v, Tryd.f3.params[j]? = some t → args[j]? = some v → Value.okWide Tryd.prog W .any base t v := hval0
  have hW' := hW
  obtain ⟨p, q, hA0, hV, rfl, hfz, hnd⟩ := hW
  have hA : DataW.TrodAll enc Tryd.prog W 0 (fun _ => true) true Tryd.f3.params.toList args.toList ds p := hA0
  rw [Tryd.params3] at hA hval
  obtain ⟨v0, vs0, d0, ds0, p0, q0, hargs, rfl, rfl, h0, r0⟩ := trodAll_cons hA
  obtain ⟨rfl, rfl, rfl⟩ := trodAll_nil r0
  obtain rfl : args = #[v0] := by cases args; simp_all
  obtain ⟨rfl, rfl⟩ := trodVars_none hV
  have k0 := h0
  have lt0 : ∀ x ∈ p0, x.block < W.heap.size := by obtain ⟨m, hm⟩ := k0; exact DataW.trod_lt m _ _ _ hm
  obtain ⟨n, ps0, s0, z0⟩ := arg_repR (enc := enc) (C := C0) (W := W) (v := v0) (ts := [24, 22, 45, 43, 41, 40, 34, 5, 3]) tabOk (by kernel_rfl) (show C0.T 24 = some _ from tyT24) (by kernel_rfl) (hval 0 24 v0 rfl rfl) h0
  obtain ⟨out, hl⟩ := run_ok ps0 s0
  obtain ⟨hgw, hng⟩ := of_laid hL
  have hcall := law_calls prog_ok (g := 3) (gn := Tryd.f3) Tryd.func3 (by rfl) hl (W := W) hng hgw (vs := #[v0]) rfl (fun j t hj => by
    cases j with
    | zero => simp at hj; subst hj; exact z0
    | succ j => simp at hj)
  refine hcall.mono fun e W' ⟨he, bel⟩ => ?_
  subst he
  exact ⟨_, rfl, _, _, _, [], _, [], hW', trodAll_mk1 (shut_bool Tryd.underlying4 _), (trodAll_cons_mk (Below.trod laidOut (by kernel_rfl) (of_decide_eq_true (by kernel_rfl)) k0 bel lt0) trodAll_mk0), rfl, bel.frame _, fun h => by cases h⟩
theorem over : Rows.FnExactAsksSaid :=
  OpenClaim.holds_of_wide 3 Tryd.f3 rfl rfl rfl rfl rfl rfl rfl ⟨rfl, rfl, rfl, rfl, rfl⟩ rfl rfl rfl rfl rfl (by kernel_rfl) Tryd.func3 (by kernel_rfl)
    (of_decide_eq_true (by kernel_rfl)) (by unfold Func.isWrapper; first | (rw [if_pos (by decide +kernel)]; kernel_rfl) | (rw [if_neg (by decide +kernel)]; exact ⟨rfl, rfl⟩))
    (fun os started H enc _ => lifted os started H enc)
theorem card : Rows.FnExactAsksCardSaid :=
  Claim7.holds_tied_plain_at .later [] [.data, .data, .data, .sentinel, .sentinel] true (true, "96c0159693a5e2e76b27cfb033298eb0a6e1449e9ff944622dc3a06ac8133bfa") true
    over (fun _ h => by cases h) (by kernel_rfl) (fun _ h => by cases h) fnExactAsks_row_tie rfl ⟨rfl, rfl⟩ (by kernel_rfl) rfl
    (fun f fn hf hfn => by
      obtain rfl : f = 3 := Option.some.inj ((show Tryd.prog.funcNamed "loop.example/g00407/laws.FnExactAsks" = some 3 by kernel_rfl).symm.trans hf) |>.symm
      obtain rfl : fn = Tryd.f3 := (Option.some.inj (Tryd.func3.symm.trans hfn)).symm
      exact ⟨by kernel_rfl, fun j t ht => by
        rw [Tryd.params3] at ht
        have hm : t ∈ [24] := by simpa using Array.mem_of_getElem? ht
        have hall : ([24].all fun u => !Tryd.prog.wantsStandIn u) = true := by kernel_rfl
        exact (show Tryd.prog.wantsStandIn t = false by simpa using List.all_eq_true.1 hall t hm)⟩)
    (by kernel_rfl)
end Go.Proofs.YtgkhojgmpojodaaDoor.lawAsks
namespace Go.Proofs.YtgkhojgmpojodaaDoor
theorem FnExactAsks_holds : Rows.FnExactAsksCardSaid := lawAsks.card
#print axioms FnExactAsks_holds
end Go.Proofs.YtgkhojgmpojodaaDoor
