/- The law FnOrders: whatever graph is drawn: its order, where there is one, has each behind all from which an edge comes; there is none just if there is a ring; turned it is the same; layers go up along edges. No conditions. -/
import Derived.Test.YtopoaemlbnkhgaaG28
import Derived.Test.YtopoaemlbnkhgaaG30
import Derived.Test.YtopoaemlbnkhgaaX1
import Derived.Test.YtopoaemlbnkhgaaS2
namespace Go.Proofs.Ytopoaemlbnkhgaa.lawOrders
open Go Go.Pm Go.Proofs Go.Proofs.Ytopoaemlbnkhgaa
set_option linter.unusedVariables false
set_option linter.unusedSimpArgs false
open Go.ChangeShapes Go.WideShapes Go.ChangeAt Go.RowKit
set_option maxRecDepth 100000 in
set_option maxHeartbeats 4000000 in
theorem e46 (fn : Func) (hr : fn.results = #[.cell 2 34]) (s : List Int) (hs : s.length ≤ 9223372036854775807) : lim C0 46 fn [.c (code Try.f46)] ⟨number [.pv false (.sl (nums .u8 s))] 0, []⟩ = some (.ag [(.pv false (.sc (.int .i64 ((bent (cur0 s)).1.1)))), .ref 16 0 (bent (cur0 s)).1.2.length], [(16, .row .own 42 2 (eds (bent (cur0 s)).1.2))]) := by
  have p1 := p55 s hs
  have p2 := p54 s (cur0 s) hs
  simp only [curB] at p1 p2
  simp [code, Try.f46, hr, p1, p2]
theorem p46 (s : List Int) (hs : s.length ≤ 9223372036854775807) : phi C0 (lim C0) 46 [.pv false (.sl (nums .u8 s))] [] = some (.ag [(.pv false (.sc (.int .i64 ((bent (cur0 s)).1.1)))), .ref 16 0 (bent (cur0 s)).1.2.length], [(16, .row .own 42 2 (eds (bent (cur0 s)).1.2))]) := call0 Try.func46 (by kernel_rfl) (e46 Try.f46 Try.results46 s hs)
theorem lay_no {n v : Int} {l : List Ed} (h : ¬ n ≤ (ordL n.toNat l []).length) : layer n v l = -1 := by
  unfold layer
  simp [h]
set_option maxRecDepth 100000 in
set_option maxHeartbeats 4000000 in
theorem e12 (fn : Func) (hr : fn.results = #[.tmp 2]) (s : List Int) (hs : s.length ≤ 9223372036854775807) : lim C0 12 fn [.c (code Try.f12)] ⟨number [.pv false (.sl (nums .u8 s))] 0, []⟩ = some (tf true, []) := by
  have hp15 := plan12_15
  simp [opsOf, code, Try.f12] at hp15
  have hp22 := plan12_22
  simp [opsOf, code, Try.f12] at hp22
  have hL := bent_len (cur0 s)
  have q0 := p46 s hs
  generalize (bent (cur0 s)).1 = G at *
  obtain ⟨N, L⟩ := G
  simp only at hL q0
  have q1 := fun b => p21 b N L (by omega)
  have q2 := fun b => p45 b N L (by omega)
  have q3 := fun b => p23 b N L (by omega)
  have w1 := fun b => p23 b 0 [] (by simp)
  simp only [grTV] at q1 q2 q3 w1
  cases hg : gOk N L with
  | false =>
    rw [hg] at q1 q2 q3
    simp at q1 q2 q3
    rw [show gOk 0 [] = true from rfl] at w1
    simp at w1
    simp [code, Try.f12, hr, hp15, hp22, q0, q1, q2, q3, w1]
  | true =>
    obtain ⟨n, rfl, hn20, hl400, hch⟩ := gOk_n hg
    have he : ∀ e ∈ L, edIn n e = true := fun e h => gChk_in hch e h
    have q4 := fun b => p42 b n L hn20 hl400 hg
    rw [sort_turn hch, ← turnS_ln hch] at q4
    have hT : gOk n (turnS L n) = true := by
      simp [gOk, turnS_chk hch, turnS_ln hch]
      omega
    have hTl := turnS_ln hch
    have q5 := fun b => p21 b n (turnS L n) (by omega)
    have q6 := fun b => p39 b n L hn20 hl400 hg he
    have q7 := fun b v => p27 b n v L (by omega)
    rw [hT] at q5
    rw [hg] at q1 q2
    simp only [Bool.true_and, Int.toNat_natCast, decide_eq_true_eq, Int.ofNat_le] at q1 q5
    simp only [turnS_full hch] at q5
    simp only [grTV] at q4 q5 q6 q7
    by_cases ho : n ≤ (ordL n L []).length
    · have hr0 := (full_ring he).1 ho
      have hlay := layer_up hg ho
      obtain ⟨i1, i2⟩ := ordL_idx he ho
      obtain ⟨i3, i4⟩ := ordL_nd (n := n) (l := L) [] .nil (fun x hx => by cases hx)
      have i5 := ordL_len (n := n) (l := L) [] (by simp [left_nil])
      have i6 : (ordL n L []).length = n := by omega
      simp only [ho, if_true] at q1 q5
      rw [hr0, List.eq_nil_of_length_eq_zero hr0] at q6
      have g1 : n * 8 ≤ Pm.roomBytes := by unfold Pm.roomBytes; omega
      have g2 : (n : Int) ≤ 9223372036854775807 := by omega
      generalize ordL n (turnS L n) [] = OT at *
      generalize turnS L n = T at *
      generalize ordL n L [] = O at *
      generalize hLY : (fun v => layer n v L) = LY at *
      have hlay' : ∀ e ∈ L, LY e.1 < LY e.2 := by rw [← hLY]; exact hlay
      have q7' : ∀ b v, phi C0 (lim C0) 27 [.ag [(.pv false (.sc (.int .i64 ((n : Nat))))), .pv b (.sl (eds L))], (.pv false (.sc (.int .i64 v)))] [] = some ((.pv false (.sc (.int .i64 (LY v)))), []) := by rw [← hLY]; exact q7
      clear q7 hLY hlay
      have k1 : List.take L.length T = T := by rw [← hTl, List.take_length]
      have k2 : List.take n O = O := by rw [← i6, List.take_length]
      simp [code, Try.f12, hr, hp15, hp22, q0, q1, q2, q4, q5, q6, g1, g2, hTl, i6, k1, k2, -List.reduceReplicate]
      rw [show List.replicate n [PV.sc (.int .i64 0)] = rws (numP .i64) (plR n O 0) by rw [plR_nil, rws_rep]; rfl]
      refine (loop_to (s0 := ?s1) (fun x => n - x) (fun x => [(11, (.pv false (.sc (.int .i64 ((x : Nat))))))]) (fun x => [(16, .box [(.pv false (.sc (.int .i64 ((n : Nat))))), .ref 18 0 L.length]), (18, .row .own 42 2 (eds L)), (20, .row .own 3 1 (nums .i64 O)), (22, .box [(.pv false (.sc (.int .i64 ((n : Nat))))), .ref 24 0 L.length]), (24, .row .own 42 2 (eds T)), (26, .row .own 3 1 (nums .i64 OT)), (28, .row .own 3 1 (nums .i64 (plR n O x))), (30, .row .own 3 1 [])]) (fun x K => K [(11, (.pv false (.sc (.int .i64 ((n : Nat))))))] ([(16, .box [(.pv false (.sc (.int .i64 ((n : Nat))))), .ref 18 0 L.length]), (18, .row .own 42 2 (eds L)), (20, .row .own 3 1 (nums .i64 O)), (22, .box [(.pv false (.sc (.int .i64 ((n : Nat))))), .ref 24 0 L.length]), (24, .row .own 42 2 (eds T)), (26, .row .own 3 1 (nums .i64 OT)), (28, .row .own 3 1 (nums .i64 (plR n O n))), (30, .row .own 3 1 [])])) (fun x => x ≤ n) (0 : Nat) ?hc1 ?h01 ?hs1 ?step1).trans ?r1
      case hc1 => simp; rfl
      case h01 => first | (simp; done) | (simp [*]; done) | exact ⟨by simp, ⟨rfl⟩⟩ | grind | (simp; omega)
      case hs1 => first | (simp; done) | (simp [*]; done)
      case r1 =>
        simp
        refine (loop_to (s0 := ?s2) (fun x => L.length - x) (fun x => [(12, (.pv false (.sc (.int .i64 ((x : Nat))))))]) (fun x => [(16, .box [(.pv false (.sc (.int .i64 ((n : Nat))))), .ref 18 0 L.length]), (18, .row .own 42 2 (eds L)), (20, .row .own 3 1 (nums .i64 O)), (22, .box [(.pv false (.sc (.int .i64 ((n : Nat))))), .ref 24 0 L.length]), (24, .row .own 42 2 (eds T)), (26, .row .own 3 1 (nums .i64 OT)), (28, .row .own 3 1 (nums .i64 (plR n O n))), (30, .row .own 3 1 [])]) (fun x K => K [(12, (.pv false (.sc (.int .i64 L.length))))] ([(16, .box [(.pv false (.sc (.int .i64 ((n : Nat))))), .ref 18 0 L.length]), (18, .row .own 42 2 (eds L)), (20, .row .own 3 1 (nums .i64 O)), (22, .box [(.pv false (.sc (.int .i64 ((n : Nat))))), .ref 24 0 L.length]), (24, .row .own 42 2 (eds T)), (26, .row .own 3 1 (nums .i64 OT)), (28, .row .own 3 1 (nums .i64 (plR n O n))), (30, .row .own 3 1 [])])) (fun x => x ≤ L.length) (0 : Nat) ?hc2 ?h02 ?hs2 ?step2).trans ?r2
        case hc2 => simp; rfl
        case h02 => first | (simp; done) | (simp [*]; done) | exact ⟨by simp, ⟨rfl⟩⟩ | grind | (simp; omega)
        case hs2 => first | (simp; done) | (simp [*]; done)
        case r2 => simp [hr, i6, hr, hp15, hp22]
        intro k i hi ih
        simp
        (first | refine ifL_cases (fun h => ?_) (fun h => ?_) | refine gI_cases' (fun h => ?_) (fun h => ?_) | refine gI_cases (fun h => ?_) (fun h => ?_) | refine dI_cases' (fun h => ?_) (fun h => ?_) | refine dI_cases (fun h => ?_) (fun h => ?_)) <;> first | replace h := of_decide_eq_true h | replace h := of_decide_eq_false h | skip
        · have hlt := h
          have hb : edIn n L[i] = true := he _ (List.getElem_mem h)
          have hb1 : 0 ≤ L[i].1 ∧ L[i].1 < n ∧ 0 ≤ L[i].2 ∧ L[i].2 < n := by grind [edIn]
          have hb2 : max L[i].1 0 = L[i].1 ∧ max L[i].2 0 = L[i].2 := by omega
          have hb3 : L[i].1.toNat < n ∧ L[i].2.toNat < n := by omega
          have hx := i2 L[i] (List.getElem_mem h)
          have hy := hlay' L[i] (List.getElem_mem h)
          have hy' : ¬ LY L[i].2 ≤ LY L[i].1 := by omega
          have hx1 : O.idxOf L[i].1 < n := by have := List.idxOf_lt_length_of_mem (i1 _ hb1.1 hb1.2.1); omega
          have hx2 : O.idxOf L[i].2 < n := by have := List.idxOf_lt_length_of_mem (i1 _ hb1.2.2.1 hb1.2.2.2); omega
          have hx3 : ¬ O.idxOf L[i].2 ≤ O.idxOf L[i].1 := by omega
          simp [hlt, hb2, hb3, hb1, hx1, hx2, hx3, hy', q7', hr, hp15, hp22]
          try simp (disch := omega) only [wrap_id']
          refine (ih.out (i + 1) _ ?_ ?_ ?_).trans ?_
          · omega
          · omega
          · simp
          · rfl
        · have e : i = L.length := by omega
          subst e
          simp
      rintro k i hi ih
      simp
      (first | refine ifL_cases (fun h => ?_) (fun h => ?_) | refine gI_cases' (fun h => ?_) (fun h => ?_) | refine gI_cases (fun h => ?_) (fun h => ?_) | refine dI_cases' (fun h => ?_) (fun h => ?_) | refine dI_cases (fun h => ?_) (fun h => ?_)) <;> first | replace h := of_decide_eq_true h | replace h := of_decide_eq_false h | skip
      · have hlt := h
        have hlt' : i < O.length := by omega
        have hb := i4 O[i] (List.getElem_mem hlt')
        have hb2 : max O[i] 0 = O[i] := by omega
        have hb3 : O[i].toNat < n := by omega
        have hb4 : ¬ O[i] < 0 := by omega
        have hb5 : ¬ (n : Int) ≤ O[i] := by omega
        have hia := idx_at i3 hlt'
        have hd := plR_set (n := n) i3 hlt' hb.1
        simp [hlt, hlt', hb4, hb5, hb2, hb3, hb, hia, hd, hr, hp15, hp22]
        try simp (disch := omega) only [wrap_id']
        refine (ih.out (i + 1) _ ?_ ?_ ?_).trans ?_
        · omega
        · omega
        · simp [hd]
        · rfl
      · have e : i = n := by omega
        subst e
        simp
    · have hr0 : ¬ (ringsL (fun v => hasI (waysL n L he [v] []) v) n).length = 0 := fun h => ho ((full_ring he).2 h)
      have hR := ringsL_len (fun v => hasI (waysL n L he [v] []) v) n
      have hlay : ∀ v, layer n v L = -1 := fun v => lay_no (by simpa using ho)
      simp only [ho, if_false] at q1 q5
      simp only [hlay] at q7
      generalize turnS L n = T at *
      generalize ringsL (fun v => hasI (waysL n L he [v] []) v) n = RL at *
      have k1 : List.take L.length T = T := by rw [← hTl, List.take_length]
      simp [code, Try.f12, hr, hp15, hp22, q0, q1, q2, q4, q5, q6, q7, hTl, hr0, k1]
theorem p12 (s : List Int) (hs : s.length ≤ 9223372036854775807) : phi C0 (lim C0) 12 [.pv false (.sl (nums .u8 s))] [] = some (tf true, []) := call0 Try.func12 (by kernel_rfl) (e12 Try.f12 Try.results12 s hs)
theorem run_ok (ps : List PV) (h : Shape C0 8 22 ps) : ∃ out, lim C0 12 Try.f12 [.c (code Try.f12)] ⟨number [argTV false ps] 0, []⟩ = some (tf true, out) := by
  simp only [Shape, C0_T, tyT22] at h
  obtain ⟨rows, rfl, h1, h2⟩ := h
  obtain ⟨l, rfl⟩ := nums_of (n := 6) (e := 5) tyT5 h2
  exact ⟨[], e12 Try.f12 Try.results12 l (by simpa [maxLen] using h1)⟩
set_option maxRecDepth 100000 in
theorem lifted (os : Os) (started : os.Started) (H : Type) (enc : TypeId × Value → H) :
    ReturnsInHanded {} Try.checked os 12 .any (Rows.fnOrdersSpec.pre6 enc Try.prog Try.f12 Rows.fnOrdersRow.domain false) (Rows.fnOrdersSpec.post enc Try.prog Try.f12 false true false false) := by
  refine returnsInHanded_of_change_sized (C := Try.checked) own started (by kernel_rfl) Try.func12
    (ChangeSpec.witness6 (enc := enc) (C := Try.checked) false ⟨#[], #[.slice none 0 0], []⟩ 8 (by kernel_rfl) (by kernel_rfl) (by kernel_rfl) (by kernel_rfl)) ?_
  intro W base args ds gs before hval0 hW hcnd hsz0 _
  have hval : ∀ (j : Nat) t v, Try.f12.params[j]? = some t → args[j]? = some v → Value.okWide Try.prog W .any base t v := hval0
  have hW' := hW
  obtain ⟨p, q, hA0, hV, rfl, hfz, hnd⟩ := hW
  have hA : DataW.TrodAll enc Try.prog W 0 (fun _ => true) true Try.f12.params.toList args.toList ds p := hA0
  rw [Try.params12] at hA hval
  obtain ⟨v0, vs0, d0, ds0, p0, q0, hargs, rfl, rfl, h0, r0⟩ := trodAll_cons hA
  obtain ⟨rfl, rfl, rfl⟩ := trodAll_nil r0
  obtain rfl : args = #[v0] := by cases args; simp_all
  obtain ⟨rfl, rfl⟩ := trodVars_none hV
  have k0 := h0
  have lt0 : ∀ x ∈ p0, x.block < W.heap.size := by obtain ⟨m, hm⟩ := k0; exact DataW.trod_lt m _ _ _ hm
  obtain ⟨ps0, s0, z0⟩ := arg_rep (enc := enc) (C := C0) (W := W) (v := v0) tabOk (t := 22) (ti := ⟨1, 24, .slice 5, .nl⟩) (n := 8) (by kernel_rfl) (by kernel_rfl) (hval 0 22 v0 rfl rfl) h0
  obtain ⟨out, hl⟩ := run_ok ps0 s0
  have hcall := law_calls prog_ok (g := 12) (gn := Try.f12) Try.func12 (by rfl) hl (W := W) (vs := #[v0]) rfl (fun j t hj => by
    cases j with
    | zero => simp at hj; subst hj; exact z0
    | succ j =>
      simp at hj)
  refine hcall.mono fun e W' ⟨he, bel⟩ => ?_
  subst he
  exact ⟨_, rfl, _, _, _, [], _, [], hW', trodAll_mk1 (shut_bool Try.underlying4 _), (trodAll_cons_mk (Below.trod laidOut (by kernel_rfl) (of_decide_eq_true (by kernel_rfl)) k0 bel lt0) trodAll_mk0), rfl, bel.frame _, fun h => by cases h⟩
theorem over : Rows.fnOrdersRow.holds Try.pinned (OpenSpec.ofChange Rows.fnOrdersSpec) :=
  OpenClaim.holds_of_wide 12 Try.f12 rfl rfl rfl rfl rfl rfl rfl ⟨rfl, rfl, rfl, rfl, rfl⟩ rfl rfl rfl rfl rfl (by kernel_rfl) Try.func12 (by kernel_rfl)
    (of_decide_eq_true (by kernel_rfl)) (by unfold Func.isWrapper; first | (rw [if_pos (by decide +kernel)]; kernel_rfl) | (rw [if_neg (by decide +kernel)]; exact ⟨rfl, rfl⟩))
    (fun os started H enc _ => lifted os started H enc)
end Go.Proofs.Ytopoaemlbnkhgaa.lawOrders
namespace Go.Proofs.Ytopoaemlbnkhgaa
theorem FnOrders_holds : Rows.FnOrdersSaid := lawOrders.over
#print axioms FnOrders_holds
end Go.Proofs.Ytopoaemlbnkhgaa
