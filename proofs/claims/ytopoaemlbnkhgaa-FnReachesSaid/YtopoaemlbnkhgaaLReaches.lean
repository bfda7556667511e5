/- The law FnReaches: whatever graph is drawn, and whatever ones of it: what can be come to from them has them, ascends, is closed under the graph's edges, and leads to nothing more. No conditions. -/
import Derived.Test.YtopoaemlbnkhgaaG29
import Derived.Test.YtopoaemlbnkhgaaG22
import Derived.Test.YtopoaemlbnkhgaaX1
import Derived.Test.YtopoaemlbnkhgaaS2
namespace Go.Proofs.Ytopoaemlbnkhgaa.lawReaches
open Go Go.Pm Go.Proofs Go.Proofs.Ytopoaemlbnkhgaa
set_option linter.unusedVariables false
set_option linter.unusedSimpArgs false
open Go.ChangeShapes Go.WideShapes Go.ChangeAt Go.RowKit
/-- The program's Reach, at each graph. -/
def rch (n : Int) (l : List Ed) (p : List Int) : List Int := bif gOk n l && (decide (p.length ≤ 20) && insR n p) then told (rnds l n.toNat (marks p [])) n.toNat else []
theorem pR (b b' : Bool) (n : Int) (l : List Ed) (p : List Int) (t1 : l.length ≤ 1048576) (t2 : p.length ≤ 1048576) : phi C0 (lim C0) 44 [grTV b n l, .pv b' (.sl (nums .i64 p))] [] = some (.ref 16 0 (rch n l p).length, [(16, .row .own 3 1 (nums .i64 (rch n l p)))]) := by
  unfold rch
  cases hg : gOk n l
  · exact p44_no b b' n l p t1 t2 hg
  · obtain ⟨m, rfl, hm20, hl400, hch⟩ := gOk_n hg
    have he : ∀ e ∈ l, edIn m e = true := fun e h => gChk_in hch e h
    cases hc : (decide (p.length ≤ 20) && insR m p)
    · exact p44_out b b' m l p hm20 hl400 t2 hg hc
    · simp only [Bool.and_eq_true, decide_eq_true_eq] at hc
      have hs := insR_all hc.2
      have hfl : ∀ v : Int, (if h : 0 ≤ v ∧ v < m then told (waysL m l he [v] []) 20 else []).length ≤ 20 := fun v => by
        split
        · exact told_len _ _
        · simp
      have hf : ∀ (v : Int) (h : 0 ≤ v ∧ v < m), (if h : 0 ≤ v ∧ v < m then told (waysL m l he [v] []) 20 else []) = told (waysL m l he [v] []) 20 := fun v h => by rw [dif_pos h]
      have q4 := p44 b b' m l p (fun v => if h : 0 ≤ v ∧ v < m then told (waysL m l he [v] []) 20 else []) hm20 hl400 hc.1 hg he hc.2 hfl hf
      rw [reach_eq he hm20 hs (fun v => if h : 0 ≤ v ∧ v < m then told (waysL m l he [v] []) 20 else []) hf] at q4
      exact q4
theorem insR_of {n : Int} : ∀ {l : List Int}, (∀ x ∈ l, 0 ≤ x ∧ x < n) → insR n l = true
  | [], _ => rfl
  | x :: l, h => by
    have h1 := h x (List.mem_cons_self ..)
    simp [insR, h1, insR_of fun y hy => h y (List.mem_cons_of_mem _ hy)]
/-- To go on from what was come to leads to nothing new. -/
theorem rch_again {n : Nat} {l : List Ed} (hn : n ≤ 20) (he : ∀ e ∈ l, edIn n e = true) (p : List Int) : told (rnds l n (marks (told (rnds l n (marks p [])) n) [])) n = told (rnds l n (marks p [])) n := by
  refine asc_ext (told_asc _ _) (told_asc _ _) fun x => ?_
  rw [told_mem, told_mem, reach_from he]
  have hc := rnds_closed he (marks p [])
  generalize rnds l n (marks p []) = S at *
  constructor
  · rintro ⟨hx, h | ⟨u, hu, hw⟩⟩
    · exact (told_mem _ _ _).1 h
    · refine ⟨hx, ?_⟩
      have hS := ((told_mem _ _ _).1 hu).2
      induction hw with
      | one hm h1 => exact hc _ hm (by rw [h1]; exact hS)
      | more hw' hm ih => exact hc _ hm (ih (way_in he hw'))
  · rintro ⟨hx, h⟩
    exact ⟨hx, .inl ((told_mem _ _ _).2 ⟨hx, h⟩)⟩
set_option maxRecDepth 100000 in
set_option maxHeartbeats 4000000 in
theorem e11 (fn : Func) (hr : fn.results = #[.tmp 2]) (s : List Int) (hs : s.length ≤ 9223372036854775807) : lim C0 11 fn [.c (code Try.f11)] ⟨number [.pv false (.sl (nums .u8 s))] 0, []⟩ = some (tf true, []) := by
  have hp9 := plan11_9
  simp [opsOf, code, Try.f11] at hp9
  have hL := bent_len (cur0 s)
  have hP := drF_len (cur0 s)
  have q0 := p43 s hs
  generalize (bent (cur0 s)).1 = G at *
  generalize drF (cur0 s) = P at *
  obtain ⟨N, L⟩ := G
  simp only at hL q0
  have q1 := fun b b' => pR b b' N L P (by omega) (by omega)
  have q2 := fun b => p45 b N L (by omega)
  have w1 : ∀ b b', phi C0 (lim C0) 44 [.ag [(.pv false (.sc (.int .i64 1))), .pv b (.sl [])], .pv b' (.sl [[.sc (.int .i64 0)]])] [] = some (.ref 16 0 1, [(16, .row .own 3 1 [[.sc (.int .i64 0)]])]) := fun b b' => pR b b' 1 [] [0] (by simp) (by simp)
  simp only [grTV] at q1 q2
  cases hc : (gOk N L && (decide (P.length ≤ 20) && insR N P)) with
  | false =>
    have hR : rch N L P = [] := by unfold rch; rw [hc]; rfl
    rw [hR] at q1
    simp only [show nums .i64 [] = [] from rfl, List.length_nil] at q1
    simp [code, Try.f11, hr, hp9, q0, q1, q2]
    cases hg : gOk N L <;> simp [w1, hr]
  | true =>
    simp only [Bool.and_eq_true] at hc
    obtain ⟨hg, hP20, hPin⟩ := hc
    obtain ⟨n, rfl, hn20, hl400, hch⟩ := gOk_n hg
    have he : ∀ e ∈ L, edIn n e = true := fun e h => gChk_in hch e h
    have hPs := insR_all hPin
    have hR : rch n L P = told (rnds L n (marks P [])) n := by unfold rch; rw [hg, hP20, hPin]; rfl
    have hRlen := told_len (rnds L n (marks P [])) n
    have hRin : ∀ x ∈ told (rnds L n (marks P [])) n, 0 ≤ x ∧ x < n := fun x hx => ((told_mem _ _ _).1 hx).1
    have hRasc := told_asc (rnds L n (marks P [])) n
    have hPR : ∀ x ∈ P, x ∈ told (rnds L n (marks P [])) n := fun x hx => (told_mem _ _ _).2 ⟨hPs x hx, (reach_from he P x).2 (.inl hx)⟩
    have hcl := rnds_closed he (marks P [])
    have hRcl : ∀ e ∈ L, e.1 ∈ told (rnds L n (marks P [])) n → e.2 ∈ told (rnds L n (marks P [])) n := fun e hm h => by
      have h2 := he e hm
      exact (told_mem _ _ _).2 ⟨by grind [edIn], hcl e hm ((told_mem _ _ _).1 h).2⟩
    have q3 := fun b b' => pR b b' n L (told (rnds L n (marks P [])) n) (by omega) (by omega)
    have hRR : rch n L (told (rnds L n (marks P [])) n) = told (rnds L n (marks P [])) n := by
      unfold rch
      have h20 : (told (rnds L n (marks P [])) n).length ≤ 20 := by omega
      rw [hg, insR_of hRin]
      simp only [h20, decide_true, Bool.and_self, cond_true, Int.toNat_natCast]
      exact rch_again hn20 he P
    rw [hRR] at q3
    rw [hR] at q1
    rw [hg] at q2
    simp only [grTV] at q3
    clear hcl hR hRR
    generalize told (rnds L n (marks P [])) n = R at *
    have g1 : n ≤ Pm.roomBytes := by unfold Pm.roomBytes; omega
    have g2 : (n : Int) ≤ 9223372036854775807 := by omega
    rcases R with _ | ⟨r0, R⟩
    · simp [code, Try.f11, hr, hp9, q0, q1, q2, w1]
    · generalize hRR : r0 :: R = RR at *
      have hR0 : ¬ (RR.length : Int) = 0 := by rw [← hRR]; simp; omega
      have hR1 : ¬ RR = [] := by rw [← hRR]; simp
      have hR2 : ¬ RR.length = 0 := by rw [← hRR]; simp
      simp [code, Try.f11, hr, hp9, q0, q1, q2, hR0, hR1, hR2, g1, g2, -List.reduceReplicate]
      rw [show List.replicate n [PV.sc (.bool false)] = rws boP (dones n []) by rw [dones_nil]; simp [boP]]
      refine (loop_to (s0 := ?s1) (fun x => RR.length - x.1) (fun x => [(7, (.pv false (.sc (.int .i64 ((x.1 : Nat))))))]) (fun x => [(16, .box [(.pv false (.sc (.int .i64 ((n : Nat))))), .ref 18 0 L.length]), (18, .row .own 42 2 (eds L)), (20, .row .own 3 1 (nums .i64 P)), (22, .row .own 3 1 (nums .i64 RR)), (24, .row .own 4 1 (rws boP (dones n (x.2))))]) (fun x K => K [(7, (.pv false (.sc (.int .i64 RR.length))))] ([(16, .box [(.pv false (.sc (.int .i64 ((n : Nat))))), .ref 18 0 L.length]), (18, .row .own 42 2 (eds L)), (20, .row .own 3 1 (nums .i64 P)), (22, .row .own 3 1 (nums .i64 RR)), (24, .row .own 4 1 (rws boP (dones n (marks (RR.drop x.1) x.2))))])) (fun x => x.1 ≤ RR.length) ((0 : Nat), ([] : List Int)) ?hc1 ?h01 ?hs1 ?step1).trans ?r1
      case hc1 => simp; rfl
      case h01 => first | (simp; done) | (simp [*]; done) | exact ⟨by simp, ⟨rfl⟩⟩ | grind | (simp; omega)
      case hs1 => first | (simp; done) | (simp [*]; done)
      case r1 =>
        have hS : ∀ v, hasI (marks RR []) v = true ↔ v ∈ RR := fun v => by rw [marks_has]; simp only [hasI, Bool.false_or]; exact hasI_iff v RR
        rw [List.drop_zero]
        generalize marks RR [] = S at *
        simp
        refine (loop_to (s0 := ?s2) (fun x => P.length - x) (fun x => [(8, (.pv false (.sc (.int .i64 ((x : Nat))))))]) (fun x => [(16, .box [(.pv false (.sc (.int .i64 ((n : Nat))))), .ref 18 0 L.length]), (18, .row .own 42 2 (eds L)), (20, .row .own 3 1 (nums .i64 P)), (22, .row .own 3 1 (nums .i64 RR)), (24, .row .own 4 1 (rws boP (dones n (S))))]) (fun x K => K [(8, (.pv false (.sc (.int .i64 P.length))))] [(16, .box [(.pv false (.sc (.int .i64 ((n : Nat))))), .ref 18 0 L.length]), (18, .row .own 42 2 (eds L)), (20, .row .own 3 1 (nums .i64 P)), (22, .row .own 3 1 (nums .i64 RR)), (24, .row .own 4 1 (rws boP (dones n (S))))]) (fun x => x ≤ P.length) 0 ?hc2 ?h02 ?hs2 ?step2).trans ?r2
        case hc2 => simp; rfl
        case h02 => first | (simp; done) | (simp [*]; done) | exact ⟨by simp, ⟨rfl⟩⟩ | grind | (simp; omega)
        case hs2 => first | (simp; done) | (simp [*]; done)
        case r2 =>
          simp
          refine (loop_to (s0 := ?s3) (fun x => L.length - x) (fun x => [(9, (.pv false (.sc (.int .i64 ((x : Nat))))))]) (fun x => [(16, .box [(.pv false (.sc (.int .i64 ((n : Nat))))), .ref 18 0 L.length]), (18, .row .own 42 2 (eds L)), (20, .row .own 3 1 (nums .i64 P)), (22, .row .own 3 1 (nums .i64 RR)), (24, .row .own 4 1 (rws boP (dones n (S))))]) (fun x K => K [(9, (.pv false (.sc (.int .i64 L.length))))] [(16, .box [(.pv false (.sc (.int .i64 ((n : Nat))))), .ref 18 0 L.length]), (18, .row .own 42 2 (eds L)), (20, .row .own 3 1 (nums .i64 P)), (22, .row .own 3 1 (nums .i64 RR)), (24, .row .own 4 1 (rws boP (dones n (S))))]) (fun x => x ≤ L.length) 0 ?hc3 ?h03 ?hs3 ?step3).trans ?r3
          case hc3 => simp; rfl
          case h03 => first | (simp; done) | (simp [*]; done) | exact ⟨by simp, ⟨rfl⟩⟩ | grind | (simp; omega)
          case hs3 => first | (simp; done) | (simp [*]; done)
          case r3 => simp [q3, hr, hr, hp9]
          intro k i hi ih
          simp
          (first | refine ifL_cases (fun h => ?_) (fun h => ?_) | refine gI_cases' (fun h => ?_) (fun h => ?_) | refine gI_cases (fun h => ?_) (fun h => ?_) | refine dI_cases' (fun h => ?_) (fun h => ?_) | refine dI_cases (fun h => ?_) (fun h => ?_)) <;> first | replace h := of_decide_eq_true h | replace h := of_decide_eq_false h | skip
          · have hlt := h
            have hb : edIn n L[i] = true := he _ (List.getElem_mem h)
            have hb1 : 0 ≤ L[i].1 ∧ L[i].1 < n ∧ 0 ≤ L[i].2 ∧ L[i].2 < n := by grind [edIn]
            have hb2 : max L[i].1 0 = L[i].1 ∧ max L[i].2 0 = L[i].2 := by omega
            have hb3 : L[i].1.toNat < n ∧ L[i].2.toNat < n := by omega
            have hc1 := hRcl L[i] (List.getElem_mem h)
            simp [hlt, hb2, hb3, hb1, boP, hr, hp9]
            cases hs1 : hasI S L[i].1 with
            | true =>
              have hs2 : hasI S L[i].2 = true := (hS _).2 (hc1 ((hS _).1 hs1))
              simp [hlt, hb2, hb3, hb1, boP, hs1, hs2, hr, hp9]
              try simp (disch := omega) only [wrap_id']
              refine (ih.out (i + 1) _ ?_ ?_ ?_).trans ?_
              · omega
              · omega
              · simp
              · rfl
            | false =>
              simp [hlt, hb2, hb3, hb1, boP, hs1, hr, hp9]
              try simp (disch := omega) only [wrap_id']
              refine (ih.out (i + 1) _ ?_ ?_ ?_).trans ?_
              · omega
              · omega
              · simp
              · rfl
          · have e : i = L.length := by omega
            subst e
            simp
        intro k i hi ih
        simp
        (first | refine ifL_cases (fun h => ?_) (fun h => ?_) | refine gI_cases' (fun h => ?_) (fun h => ?_) | refine gI_cases (fun h => ?_) (fun h => ?_) | refine dI_cases' (fun h => ?_) (fun h => ?_) | refine dI_cases (fun h => ?_) (fun h => ?_)) <;> first | replace h := of_decide_eq_true h | replace h := of_decide_eq_false h | skip
        · have hb := hPs P[i] (List.getElem_mem h)
          have hb2 : max P[i] 0 = P[i] := by omega
          have hb3 : P[i].toNat < n := by omega
          have hS1 := (hS P[i]).2 (hPR _ (List.getElem_mem h))
          simp [h, hb2, hb3, hb, boP, hS1, hr, hp9]
          try simp (disch := omega) only [wrap_id']
          refine (ih.out (i + 1) _ ?_ ?_ ?_).trans ?_
          · omega
          · omega
          · simp
          · rfl
        · have e : i = P.length := by omega
          subst e
          simp
      rintro k ⟨i, s1⟩ hi ih
      simp at hi
      simp
      (first | refine ifL_cases (fun h => ?_) (fun h => ?_) | refine gI_cases' (fun h => ?_) (fun h => ?_) | refine gI_cases (fun h => ?_) (fun h => ?_) | refine dI_cases' (fun h => ?_) (fun h => ?_) | refine dI_cases (fun h => ?_) (fun h => ?_)) <;> first | replace h := of_decide_eq_true h | replace h := of_decide_eq_false h | skip
      · have hlt := h
        have hb := hRin RR[i] (List.getElem_mem h)
        have hb2 : max RR[i] 0 = RR[i] := by omega
        have hb3 : RR[i].toNat < n := by omega
        have hb4 : ¬ RR[i] < 0 := by omega
        have hb5 : ¬ (n : Int) ≤ RR[i] := by omega
        have hm := marks_at (s := s1) h
        have hd := dones_mark n s1 RR[i].toNat
        simp [hb2] at hd
        rcases i with _ | j
        · simp [hlt, hb4, hb5, hb2, hb3, hb, boP_set, hd, hr, hp9]
          refine (ih.out (1, mark s1 RR[0]) _ ?_ ?_ ?_).trans ?_
          · simp; omega
          · simp; omega
          · simp
          · rw [List.drop_zero] at hm; rw [hm]; rfl
        · have hp : RR[j] < RR[j + 1] := by
            rw [List.pairwise_iff_getElem] at hRasc
            exact hRasc j (j + 1) (by omega) hlt (by omega)
          have hp2 : ¬ RR[j + 1] ≤ RR[j] := by omega
          have d1 : (0 : Int) ≤ (j : Int) + 1 := by omega
          have d2 : (j : Int) + 1 < (RR.length : Int) := by omega
          have d3 : (0 : Int) < (j : Int) + 1 := by omega
          have d4 : IntKind.i64.wrap (j : Int) = j := wrap_id' (by omega)
          have d5 : j < RR.length := by omega
          simp [hlt, hb4, hb5, hb2, hb3, hb, boP_set, hd, hp2, d1, d2, d3, d4, d5, hr, hp9]
          refine (ih.out (j + 1 + 1, mark s1 RR[j + 1]) _ ?_ ?_ ?_).trans ?_
          · simp; omega
          · simp; omega
          · simp
            try simp (disch := omega) only [wrap_id']
          · rw [hm]; rfl
      · have e : i = RR.length := by omega
        subst e
        simp [marks]
theorem p11 (s : List Int) (hs : s.length ≤ 9223372036854775807) : phi C0 (lim C0) 11 [.pv false (.sl (nums .u8 s))] [] = some (tf true, []) := call0 Try.func11 (by kernel_rfl) (e11 Try.f11 Try.results11 s hs)
theorem run_ok (ps : List PV) (h : Shape C0 8 22 ps) : ∃ out, lim C0 11 Try.f11 [.c (code Try.f11)] ⟨number [argTV false ps] 0, []⟩ = some (tf true, out) := by
  simp only [Shape, C0_T, tyT22] at h
  obtain ⟨rows, rfl, h1, h2⟩ := h
  obtain ⟨l, rfl⟩ := nums_of (n := 6) (e := 5) tyT5 h2
  exact ⟨[], e11 Try.f11 Try.results11 l (by simpa [maxLen] using h1)⟩
set_option maxRecDepth 100000 in
theorem lifted (os : Os) (started : os.Started) (H : Type) (enc : TypeId × Value → H) :
    ReturnsInHanded {} Try.checked os 11 .any (Rows.fnReachesSpec.pre6 enc Try.prog Try.f11 Rows.fnReachesRow.domain false) (Rows.fnReachesSpec.post enc Try.prog Try.f11 false true false false) := by
  refine returnsInHanded_of_change_sized (C := Try.checked) own started (by kernel_rfl) Try.func11
    (ChangeSpec.witness6 (enc := enc) (C := Try.checked) false ⟨#[], #[.slice none 0 0], []⟩ 8 (by kernel_rfl) (by kernel_rfl) (by kernel_rfl) (by kernel_rfl)) ?_
  intro W base args ds gs before hval0 hW hcnd hsz0 _
  have hval : ∀ (j : Nat) t v, Try.f11.params[j]? = some t → args[j]? = some v → Value.okWide Try.prog W .any base t v := hval0
  have hW' := hW
  obtain ⟨p, q, hA0, hV, rfl, hfz, hnd⟩ := hW
  have hA : DataW.TrodAll enc Try.prog W 0 (fun _ => true) true Try.f11.params.toList args.toList ds p := hA0
  rw [Try.params11] at hA hval
  obtain ⟨v0, vs0, d0, ds0, p0, q0, hargs, rfl, rfl, h0, r0⟩ := trodAll_cons hA
  obtain ⟨rfl, rfl, rfl⟩ := trodAll_nil r0
  obtain rfl : args = #[v0] := by cases args; simp_all
  obtain ⟨rfl, rfl⟩ := trodVars_none hV
  have k0 := h0
  have lt0 : ∀ x ∈ p0, x.block < W.heap.size := by obtain ⟨m, hm⟩ := k0; exact DataW.trod_lt m _ _ _ hm
  obtain ⟨ps0, s0, z0⟩ := arg_rep (enc := enc) (C := C0) (W := W) (v := v0) tabOk (t := 22) (ti := ⟨1, 24, .slice 5, .nl⟩) (n := 8) (by kernel_rfl) (by kernel_rfl) (hval 0 22 v0 rfl rfl) h0
  obtain ⟨out, hl⟩ := run_ok ps0 s0
  have hcall := law_calls prog_ok (g := 11) (gn := Try.f11) Try.func11 (by rfl) hl (W := W) (vs := #[v0]) rfl (fun j t hj => by
    cases j with
    | zero => simp at hj; subst hj; exact z0
    | succ j =>
      simp at hj)
  refine hcall.mono fun e W' ⟨he, bel⟩ => ?_
  subst he
  exact ⟨_, rfl, _, _, _, [], _, [], hW', trodAll_mk1 (shut_bool Try.underlying4 _), (trodAll_cons_mk (Below.trod laidOut (by kernel_rfl) (of_decide_eq_true (by kernel_rfl)) k0 bel lt0) trodAll_mk0), rfl, bel.frame _, fun h => by cases h⟩
theorem over : Rows.fnReachesRow.holds Try.pinned (OpenSpec.ofChange Rows.fnReachesSpec) :=
  OpenClaim.holds_of_wide 11 Try.f11 rfl rfl rfl rfl rfl rfl rfl ⟨rfl, rfl, rfl, rfl, rfl⟩ rfl rfl rfl rfl rfl (by kernel_rfl) Try.func11 (by kernel_rfl)
    (of_decide_eq_true (by kernel_rfl)) (by unfold Func.isWrapper; first | (rw [if_pos (by decide +kernel)]; kernel_rfl) | (rw [if_neg (by decide +kernel)]; exact ⟨rfl, rfl⟩))
    (fun os started H enc _ => lifted os started H enc)
end Go.Proofs.Ytopoaemlbnkhgaa.lawReaches
namespace Go.Proofs.Ytopoaemlbnkhgaa
theorem FnReaches_holds : Rows.FnReachesSaid := lawReaches.over
#print axioms FnReaches_holds
end Go.Proofs.Ytopoaemlbnkhgaa
