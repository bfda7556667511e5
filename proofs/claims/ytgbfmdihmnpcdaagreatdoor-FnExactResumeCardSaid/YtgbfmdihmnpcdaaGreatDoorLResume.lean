/- The law FnExactResume: for every history the program's Resume returns what the reference's returns, leaves its argument as it was, and shares no memory with it nor with another call's result. Conditions: none beyond the row's own (the listed package-level variables hold what the program's text lays them to). -/
import Derived.Test.YtgbfmdihmnpcdaaGreatDoorR9
import Derived.Test.YtgbfmdihmnpcdaaGreatDoorXR
import Derived.Test.YtgbfmdihmnpcdaaGreatDoorS3
import Derived.Test.YtgbfmdihmnpcdaaGreatDoorCards
import Derived.Test.YtgbfmdihmnpcdaaGreatDoorTie
import Derived.ProofKit
import Derived.LaidMore
import Derived.OpenShut
import Derived.Stop.Joined
import Derived.SevenTiedAt
namespace Go.Proofs.YtgbfmdihmnpcdaaGreatDoor.lawResume
open Go Go.Pm Go.Proofs Go.Proofs.YtgbfmdihmnpcdaaGreatDoor
set_option linter.unusedVariables false
set_option linter.unusedSimpArgs false
open Go.ChangeShapes Go.WideShapes Go.ChangeAt Go.RowKit
theorem bool_at {n : Nat} {ps : List PV} (h : Shape C0 n 4 ps) : ∃ a, ps = [.sc (.bool a)] := by
 cases n with
 | zero => cases h
 | succ n =>
  simp only [Shape, C0_T, tyT4] at h
  obtain ⟨a, rfl⟩ := h
  exact ⟨a, rfl⟩
theorem entry_at {n : Nat} {ps : List PV} (h : Shape C0 n 159 ps) : ∃ x : En, ps = nP x ∧ ABig (nA x) ∧ byteOk x.addr = true ∧ VBy x.val ∧ ∀ y ∈ x.deps, byteOk y = true := by
 cases n with
 | zero => cases h
 | succ n =>
  simp only [Shape, C0_T, tyT159, ShapeFs] at h
  obtain ⟨_, _, rfl, h1, _, _, rfl, h2, _, _, rfl, h3, _, _, rfl, h4, _, _, rfl, h5, rfl⟩ := h
  obtain ⟨addr, rfl, ha⟩ := bytes_at h1
  obtain ⟨v, rfl, hv⟩ := val_at h2
  obtain ⟨deps, rfl, hd⟩ := bss_at h3
  obtain ⟨tb, rfl⟩ := bool_at h4
  obtain ⟨tn, rfl, _⟩ := int_at h5
  exact ⟨⟨addr, v, deps, tb, tn⟩, by simp [nP], ⟨ha.1, hv.1, hd.1, fun x hx => (hd.2 x hx).1⟩, ha.2, hv.2, fun x hx => (hd.2 x hx).2⟩
theorem entries_at {n : Nat} {ps : List PV} (h : Shape C0 n 39 ps) : ∃ l : List En, ps = [.sl (rws nP l)] ∧ l.length ≤ 9223372036854775807 ∧ ∀ x ∈ l, ABig (nA x) ∧ byteOk x.addr = true ∧ VBy x.val ∧ ∀ y ∈ x.deps, byteOk y = true := by
 cases n with
 | zero => cases h
 | succ n =>
  simp only [Shape, C0_T, tyT39] at h
  obtain ⟨rows, rfl, hl, hr⟩ := h
  have : ∀ {rows : List (List PV)}, (∀ r ∈ rows, Shape C0 n 159 r) → ∃ l, rows = rws nP l ∧ ∀ x ∈ l, ABig (nA x) ∧ byteOk x.addr = true ∧ VBy x.val ∧ ∀ y ∈ x.deps, byteOk y = true := by
   intro rows
   induction rows with
   | nil => intro _; exact ⟨[], rfl, fun x hx => by cases hx⟩
   | cons r rows ih =>
    intro hr
    obtain ⟨l, rfl, h2⟩ := ih fun r h => hr r (List.mem_cons_of_mem _ h)
    obtain ⟨a, rfl, h0⟩ := entry_at (hr r (List.mem_cons_self ..))
    exact ⟨a :: l, rfl, fun x hx => by
     rcases List.mem_cons.1 hx with rfl | hx
     · exact h0
     · exact h2 x hx⟩
  obtain ⟨l, rfl, h2⟩ := this hr
  exact ⟨l, rfl, by simpa [maxLen] using hl, h2⟩
theorem event_at {n : Nat} {ps : List PV} (h : Shape C0 n 122 ps) : ∃ e : Ev, ps = eP e ∧ ABig (eA e) ∧ byteOk e.addr = true ∧ VBy e.val ∧ ∀ x ∈ e.deps, byteOk x = true := by
 cases n with
 | zero => cases h
 | succ n =>
  simp only [Shape, C0_T, tyT122, ShapeFs] at h
  obtain ⟨_, _, rfl, h1, _, _, rfl, h2, _, _, rfl, h3, _, _, rfl, h4, _, _, rfl, h5, rfl⟩ := h
  obtain ⟨kind, rfl, _⟩ := int_at h1
  obtain ⟨addr, rfl, ha⟩ := bytes_at h2
  obtain ⟨act, rfl, _⟩ := int_at h3
  obtain ⟨v, rfl, hv⟩ := val_at h4
  obtain ⟨deps, rfl, hd⟩ := bss_at h5
  exact ⟨⟨kind, addr, act, v, deps⟩, by simp [eP], ⟨ha.1, hv.1, hd.1, fun x hx => (hd.2 x hx).1⟩, ha.2, hv.2, fun x hx => (hd.2 x hx).2⟩
theorem events_at {n : Nat} {ps : List PV} (h : Shape C0 n 42 ps) : ∃ l : List Ev, ps = [.sl (rws eP l)] ∧ l.length ≤ 9223372036854775807 ∧ ∀ x ∈ l, ABig (eA x) ∧ byteOk x.addr = true ∧ VBy x.val ∧ ∀ y ∈ x.deps, byteOk y = true := by
 cases n with
 | zero => cases h
 | succ n =>
  simp only [Shape, C0_T, tyT42] at h
  obtain ⟨rows, rfl, hl, hr⟩ := h
  have : ∀ {rows : List (List PV)}, (∀ r ∈ rows, Shape C0 n 122 r) → ∃ l, rows = rws eP l ∧ ∀ x ∈ l, ABig (eA x) ∧ byteOk x.addr = true ∧ VBy x.val ∧ ∀ y ∈ x.deps, byteOk y = true := by
   intro rows
   induction rows with
   | nil => intro _; exact ⟨[], rfl, fun x hx => by cases hx⟩
   | cons r rows ih =>
    intro hr
    obtain ⟨l, rfl, h2⟩ := ih fun r h => hr r (List.mem_cons_of_mem _ h)
    obtain ⟨a, rfl, h0⟩ := event_at (hr r (List.mem_cons_self ..))
    exact ⟨a :: l, rfl, fun x hx => by
     rcases List.mem_cons.1 hx with rfl | hx
     · exact h0
     · exact h2 x hx⟩
  obtain ⟨l, rfl, h2⟩ := this hr
  exact ⟨l, rfl, by simpa [maxLen] using hl, h2⟩
theorem state_at {n : Nat} {ps : List PV} (h : Shape C0 n 41 ps) : ∃ s : Sta, ps = [.sc (.int .i64 s.serial), .sc (.bool s.opn), .sl (nums .u8 s.pend), .sc (.int .i64 s.act), .sl (rws nP s.ents)] ∧ s.pend.length ≤ 9223372036854775807 ∧ byteOk s.pend = true ∧ s.ents.length ≤ 9223372036854775807 ∧ ∀ x ∈ s.ents, ABig (nA x) ∧ byteOk x.addr = true ∧ VBy x.val ∧ ∀ y ∈ x.deps, byteOk y = true := by
 cases n with
 | zero => cases h
 | succ n =>
  simp only [Shape, C0_T, tyT41, ShapeFs] at h
  obtain ⟨_, _, rfl, h1, _, _, rfl, h2, _, _, rfl, h3, _, _, rfl, h4, _, _, rfl, h5, rfl⟩ := h
  obtain ⟨serial, rfl, _⟩ := int_at h1
  obtain ⟨opn, rfl⟩ := bool_at h2
  obtain ⟨pend, rfl, hp⟩ := bytes_at h3
  obtain ⟨act, rfl, _⟩ := int_at h4
  obtain ⟨ents, rfl, hl, he⟩ := entries_at h5
  exact ⟨⟨serial, opn, pend, act, ents⟩, rfl, hp.1, hp.2, hl, he⟩
theorem run_ok {n : Nat} (ps : List PV) (h : Shape C0 n 44 ps) : ∃ out, lim C3 4 Tryz.f4 [.c (code Tryz.f4)] ⟨number [argTV true ps] 0, []⟩ = some (tf true, out) := by
 cases n with
 | zero => cases h
 | succ n =>
  simp only [Shape, C0_T, tyT44, ShapeFs] at h
  obtain ⟨_, _, rfl, h1, _, _, rfl, h2, _, _, rfl, h3, rfl⟩ := h
  obtain ⟨s, rfl, hp, hb, hl, he⟩ := state_at h1
  obtain ⟨evs, rfl, hel, hee⟩ := events_at h2
  obtain ⟨safe, rfl, _⟩ := int_at h3
  exact ⟨[], e4 Tryz.f4 Tryz.results4 ⟨s, evs, safe⟩ hp hb hl he hel hee⟩
theorem prog3 : Prog C3 := over_ok prog_ok
theorem iface_cell {P : Program} {w : World} {sp : Nat → Bool} {fuel : Nat} {t : TypeId} {cs : List Value} {n : String} {d : DataW Unit} {p : List MemPlace} {ms : Array (String × TypeId)} (ht : P.underlying t = some (.interface ms))
    (h : DataW.trod (fun _ => ()) P w 0 sp false fuel t cs = some (.iface n d, p)) : ∃ u v, cs = [.iface u v] := by
 cases fuel with
 | zero => cases h
 | succ fuel =>
  unfold DataW.trod at h
  rw [ht] at h
  match cs, h with
  | [.iface u v], _ => exact ⟨u, v, rfl⟩
  | [.nilIface], h => cases h
theorem of_laid {W : World} (h : laidMetH Tryz.prog Rows.fnExactResumeRow.laid W) : gw0 W ∧ Tryz.prog.globals.size ≤ W.heap.size := by
 rw [MakeChecks.laidMetH_plain _ _ _ (by kernel_rfl)] at h
 obtain ⟨ps, ⟨g0, t0, cs0, f0, p0, q0, hg0, ht0, hv0, hd0, ⟨g1, t1, cs1, f1, p1, q1, hg1, ht1, hv1, hd1, ⟨g2, t2, cs2, f2, p2, q2, hg2, ht2, hv2, hd2, ⟨g3, t3, cs3, f3, p3, q3, hg3, ht3, hv3, hd3, ⟨g4, t4, cs4, f4, p4, q4, hg4, ht4, hv4, hd4, _, _⟩, _⟩, _⟩, _⟩, _⟩, _⟩ := h
 obtain rfl := Option.some.inj ((show Tryz.prog.globalNamed "math/bits.deBruijn64tab" = some 5 by kernel_rfl).symm.trans hg1)
 obtain rfl := Option.some.inj ((show Tryz.prog.globalNamed "strconv.ErrRange" = some 2 by kernel_rfl).symm.trans hg3)
 obtain rfl := Option.some.inj ((show Tryz.prog.globalNamed "strconv.ErrSyntax" = some 1 by kernel_rfl).symm.trans hg4)
 obtain rfl := Option.some.inj ((show (Tryz.prog.globals[2]?).map (·.type) = some 150 by kernel_rfl).symm.trans ht3)
 obtain rfl := Option.some.inj ((show (Tryz.prog.globals[1]?).map (·.type) = some 150 by kernel_rfl).symm.trans ht4)
 have one : ∀ {cs : Array Value} {n : String} {d : DataW Unit} {p : List MemPlace} {fu : Nat}, DataW.trod (fun _ => ()) Tryz.prog W 0 (fun _ => true) false fu 150 cs.toList = some (.iface n d, p) → ∃ u v, cs = #[.iface u v] := fun h => by
  obtain ⟨u, v, e⟩ := iface_cell Tryz.underlying150 h
  exact ⟨u, v, Array.eq_one_of_toList e⟩
 obtain ⟨u3, v3, rfl⟩ := one hd3
 obtain ⟨u4, v4, rfl⟩ := one hd4
 have hty2 : (Tryz.prog.globals[3]?).map (·.type) = some 224 := by kernel_rfl
 have hgl2 : Tryz.prog.globalNamed "internal/strconv.uint64pow10" = some 3 := by kernel_rfl
 obtain rfl := Option.some.inj (hgl2.symm.trans hg2)
 obtain rfl := Option.some.inj (hty2.symm.trans ht2)
 have htab := Lib.cells_of_tab (n := 20) (k := .u64) (zs := pow10T) (e := 205) (by kernel_rfl) (by kernel_rfl) (by kernel_rfl) (by kernel_rfl) hd2
 refine ⟨⟨⟨u4, v4, hv4⟩, ⟨u3, v3, hv3⟩, ?_⟩, ?_⟩
 · unfold Lib.TabIs
   rw [hv2, ← htab]
 · have hb : 5 < W.heap.size := by
     unfold World.var? at hv1
     rw [hg1] at hv1
     simp only [Option.bind_some] at hv1
     by_cases hlt : 5 < W.heap.size
     · exact hlt
     · rw [Array.getElem?_eq_none (by omega)] at hv1
       cases hv1
   have hs : Tryz.prog.globals.size = 5 + 1 := by kernel_rfl
   omega
theorem own : ownKnob Tryz.prog.godebug = none := by kernel_rfl
theorem door_met (os : Os) (args : Array Value) : laidMetH Tryz.prog Rows.fnExactResumeRow.laid ((World.doorLaid Tryz.prog 400 os).forCall (fun _ _ => 0) ⟨#[], args, []⟩).memory :=
 laidMetH_of_parts3 (fuel := 8) (laidMet_of_run' 8 (by kernel_rfl) (by kernel_rfl)) (by kernel_rfl) (by kernel_rfl)
set_option maxRecDepth 100000 in
theorem lifted (os : Os) (started : os.Started) (H : Type) (enc : TypeId × Value → H) :
    ReturnsInHanded {} Tryz.checked os 4 .any (fun w args => (Rows.fnExactResumeSpec.pre enc Tryz.prog Tryz.f4 [] false w args ∧ laidMetH Tryz.prog Rows.fnExactResumeRow.laid w) ∧ sizedMet enc Tryz.prog Tryz.f4 (OpenSpec.ofChange Rows.fnExactResumeSpec) false w args)
     (Rows.fnExactResumeSpec.post enc Tryz.prog Tryz.f4 false true false false) := by
 refine returnsInHanded_of_change_and (C := Tryz.checked) (X := fun w _ => laidMetH Tryz.prog Rows.fnExactResumeRow.laid w) (fun _ _ _ hh h => h.of_heap hh) own started (by kernel_rfl) Tryz.func4
  (ChangeSpec.witness_shaped (enc := enc) (C := Tryz.checked) (os := os) (X := fun w _ => laidMetH Tryz.prog Rows.fnExactResumeRow.laid w) false (World.doorLaid Tryz.prog 400 os) #[.agg #[.int .i64 0, .bool false, .slice none 0 0, .int .i64 0, .slice none 0 0, .slice none 0 0, .int .i64 0]] 8 rfl (World.shaped_of_RefB (by kernel_rfl) (by kernel_rfl)) (by kernel_rfl) (by kernel_rfl) (by kernel_rfl) (door_met os _)) ?_
 intro W base args ds gs before hval0 hW _ _ hL _
 have hval : ∀ (j : Nat) t v, Tryz.f4.params[j]? = some t → args[j]? = some v → Value.okWide Tryz.prog W .any base t v := hval0
 have hW' := hW
 obtain ⟨p, q, hA0, hV, rfl, hfz, hnd⟩ := hW
 have hA : DataW.TrodAll enc Tryz.prog W 0 (fun _ => true) true Tryz.f4.params.toList args.toList ds p := hA0
 rw [Tryz.params4] at hA hval
 obtain ⟨v0, vs0, d0, ds0, p0, q0, hargs, rfl, rfl, h0, r0⟩ := trodAll_cons hA
 obtain ⟨rfl, rfl, rfl⟩ := trodAll_nil r0
 obtain rfl : args = #[v0] := by cases args; simp_all
 obtain ⟨rfl, rfl⟩ := trodVars_none hV
 have k0 := h0
 have lt0 : ∀ x ∈ p0, x.block < W.heap.size := by obtain ⟨m, hm⟩ := k0; exact DataW.trod_lt m _ _ _ hm
 obtain ⟨n, ps0, s0, z0⟩ := arg_repR (enc := enc) (C := C0) (W := W) (v := v0) (ts := [44, 41, 42, 122, 39, 159, 4, 103, 101, 64, 25, 5, 3]) tabOk (by kernel_rfl) (show C0.T 44 = some _ from tyT44) (by kernel_rfl) (hval 0 44 v0 rfl rfl) h0
 obtain ⟨out, hl⟩ := run_ok ps0 s0
 obtain ⟨hgw, hng⟩ := of_laid hL
 have hcall := law_calls prog3 (g := 4) (gn := Tryz.f4) Tryz.func4 (by rfl) hl (W := W) hng hgw (vs := #[v0]) rfl (fun j t hj => by
  cases j with
  | zero => simp at hj; subst hj; exact z0
  | succ j => simp at hj)
 refine hcall.mono fun e W' ⟨he, bel⟩ => ?_
 subst he
 exact ⟨_, rfl, _, _, _, [], _, [], hW', trodAll_mk1 (shut_bool Tryz.underlying4 _), (trodAll_cons_mk (Below.trod laidOut (by kernel_rfl) (of_decide_eq_true (by kernel_rfl)) k0 bel lt0) trodAll_mk0), rfl, bel.frame _, fun h => by cases h⟩
theorem j1 : (Rows.fnExactResumeRow.wf (OpenSpec.ofChange Rows.fnExactResumeSpec)) = true := by kernel_rfl
theorem j2 : (laidOutB Tryz.prog) = true := by kernel_rfl
theorem j3 : (mapsRowed Tryz.prog) = true := by kernel_rfl
theorem j4 : (Tryz.f4.params.all (Tryz.prog.readableRec ·)) = true := by kernel_rfl
theorem j5 : (namedTie Tryz.prog Rows.fnExactResumeRow.named Rows.fnExactResumeSpec.vars) = true := by kernel_rfl
theorem j6 : ((Rows.fnExactResumeRow.stops == [])) = true := by kernel_rfl
theorem j7 : ((Tryz.prog.stops == [])) = true := by kernel_rfl
theorem j8 : ((Rows.fnExactResumeRow.knobs == [])) = true := by kernel_rfl
theorem j9 : ((Tryz.prog.stopKnobs == [])) = true := by kernel_rfl
theorem j10 : ((Rows.fnExactResumeRow.inPlace == Tryz.prog.inPlace 4)) = true := by kernel_rfl
theorem j11 : ((Rows.fnExactResumeRow.unfollowed == Tryz.prog.unfollowed 4)) = true := by kernel_rfl
theorem j12 : ((Rows.fnExactResumeRow.recurses == Tryz.prog.recurses 4)) = true := by kernel_rfl
theorem j13 : ((Rows.fnExactResumeRow.named == Tryz.prog.varsNamed 4)) = true := by kernel_rfl
theorem j14 : ((Rows.fnExactResumeRow.maps == (Tryz.f4.params.toList ++ Rows.fnExactResumeSpec.plain.varTypes Tryz.prog).any (Tryz.prog.mapsRec ·))) = true := by kernel_rfl
theorem j15 : ((Rows.fnExactResumeRow.ifaces == (Tryz.f4.params.toList ++ Rows.fnExactResumeSpec.plain.varTypes Tryz.prog).any (Tryz.prog.ifacesRec ·))) = true := by kernel_rfl
theorem j16 : ((Rows.fnExactResumeRow.mapsOut == Tryz.prog.mapsAmong Tryz.f4.resultTypes.toList)) = true := by kernel_rfl
theorem j17 : ((Rows.fnExactResumeRow.loops == (Tryz.f4.params.toList ++ Rows.fnExactResumeSpec.plain.varTypes Tryz.prog).any (Tryz.prog.loopsFrom ·))) = true := by kernel_rfl
theorem j18 : ((Rows.fnExactResumeRow.wideKeys == (Tryz.f4.params.toList ++ Rows.fnExactResumeSpec.plain.varTypes Tryz.prog ++ Tryz.f4.resultTypes.toList).any (Tryz.prog.wideKeysFrom ·))) = true := by kernel_rfl
theorem j19 : (Rows.fnExactResumeSpec.vars.all (Tryz.prog.varReadable ·)) = true := by kernel_rfl
theorem j20 : (Tryz.f4.resultTypes.all (fun t => Tryz.prog.readableRec t && decide (t < Tryz.prog.types.size))) = true := by kernel_rfl
theorem j21 : ((Rows.fnExactResumeRow.ifacesOut == Tryz.f4.resultTypes.toList.any (Tryz.prog.ifacesRec ·))) = true := by kernel_rfl
theorem j22 : ((Rows.fnExactResumeRow.loopsOut == Tryz.f4.resultTypes.toList.any (Tryz.prog.loopsFrom ·))) = true := by kernel_rfl
theorem j23 : ((Rows.fnExactResumeRow.plainKeys == Tryz.prog.plainKeys)) = true := by kernel_rfl
theorem j24 : (Rows.fnExactResumeRow.shortTexts.isNone) = true := by kernel_rfl
theorem j25 : (Tryz.prog.stopsHeard) = true := by kernel_rfl
theorem j26 : (Tryz.prog.mayEnter) = true := by kernel_rfl
theorem j27 : ((Rows.fnExactResumeRow.lifted == Tryz.prog.liftsFinal)) = true := by kernel_rfl
theorem j28 : ((Tryz.prog.make == some Rows.fnExactResumeRow.make)) = true := by kernel_rfl
theorem j30 : ((Rows.fnExactResumeRow.pinned == Rows.fnExactResumeRow.pinnedBy)) = true := by kernel_rfl
theorem j31 : ((Rows.fnExactResumeRow.veiled == (Tryz.f4.params.toList ++ Rows.fnExactResumeSpec.plain.varTypes Tryz.prog ++ Tryz.f4.resultTypes.toList).any (Tryz.prog.veiledRec ·))) = true := by kernel_rfl
theorem j32 : (Rows.fnExactResumeRow.veiledFits Tryz.prog Tryz.f4.params.toList (Tryz.f4.params.toList ++ Rows.fnExactResumeSpec.plain.varTypes Tryz.prog ++ Tryz.f4.resultTypes.toList)) = true := by kernel_rfl
theorem and_t {a b : Bool} (h1 : a = true) (h2 : b = true) : (a && b) = true := by rw [h1, h2]; rfl
theorem closed : joinedFacts Tryz.prog 4 Tryz.f4 Rows.fnExactResumeSpec Rows.fnExactResumeRow = true := by
 unfold joinedFacts
 exact and_t (and_t (and_t (and_t (and_t (and_t (and_t (and_t (and_t (and_t (and_t (and_t (and_t (and_t (and_t (and_t (and_t (and_t (and_t (and_t (and_t (and_t (and_t (and_t (and_t (and_t (and_t (and_t (and_t (and_t (and_t (j1) j2) j3) j4) j5) j6) j7) j8) j9) j10) j11) j12) j13) j14) j15) j16) j17) j18) j19) j20) j21) j22) j23) j24) j25) j26) j27) j28) (by kernel_rfl)) j30) j31) j32
theorem over : Rows.FnExactResumeSaid :=
 OpenClaim.holds_of_wide 4 Tryz.f4 rfl rfl rfl rfl rfl rfl rfl ⟨rfl, rfl, rfl, rfl, rfl⟩ rfl rfl rfl rfl rfl (by kernel_rfl) Tryz.func4 closed
  (of_decide_eq_true (by kernel_rfl)) (by unfold Func.isWrapper; first | (rw [if_pos (by decide +kernel)]; kernel_rfl) | (rw [if_neg (by decide +kernel)]; exact ⟨rfl, rfl⟩))
  (fun os started H enc _ => lifted os started H enc)
theorem card : Rows.FnExactResumeCardSaid :=
 Claim7.holds_tied_plain_at .later [] [.data, .data, .data, .sentinel, .sentinel] true (true, "f8ba82c0fa0fc0fd9fdc214efc967e6b86808b579098356492d28a5f3cbb3b5b") true
  over (fun _ h => by cases h) (by kernel_rfl) (fun _ h => by cases h) fnExactResume_row_tie rfl ⟨rfl, rfl⟩ (by kernel_rfl) rfl
  (fun f fn hf hfn => by
   obtain rfl : f = 4 := Option.some.inj ((show Tryz.prog.funcNamed "loop.example/g00407/laws.FnExactResume" = some 4 by kernel_rfl).symm.trans hf) |>.symm
   obtain rfl : fn = Tryz.f4 := (Option.some.inj (Tryz.func4.symm.trans hfn)).symm
   exact ⟨by kernel_rfl, fun j t ht => by
    rw [Tryz.params4] at ht
    have hm : t ∈ [44] := by simpa using Array.mem_of_getElem? ht
    have hall : ([44].all fun u => !Tryz.prog.wantsStandIn u) = true := by kernel_rfl
    exact (show Tryz.prog.wantsStandIn t = false by simpa using List.all_eq_true.1 hall t hm)⟩)
  (by kernel_rfl)
end Go.Proofs.YtgbfmdihmnpcdaaGreatDoor.lawResume
namespace Go.Proofs.YtgbfmdihmnpcdaaGreatDoor
theorem FnExactResume_holds : Rows.FnExactResumeCardSaid := lawResume.card
#print axioms FnExactResume_holds
end Go.Proofs.YtgbfmdihmnpcdaaGreatDoor
