/- The law FnBares: whatever graph is drawn: made bare it leads where it led, and none of its edges can be spared; where there is a ring, or no graph, there is no answer. No conditions. -/
import Derived.Test.YtopoaemlbnkhgaaG28
import Derived.Test.YtopoaemlbnkhgaaG25
import Derived.Test.YtopoaemlbnkhgaaX1
import Derived.Test.YtopoaemlbnkhgaaS2
namespace Go.Proofs.Ytopoaemlbnkhgaa.lawBares
open Go Go.Pm Go.Proofs Go.Proofs.Ytopoaemlbnkhgaa
set_option linter.unusedVariables false
set_option linter.unusedSimpArgs false
open Go.ChangeShapes Go.WideShapes Go.ChangeAt Go.RowKit
theorem bool_iff {a b : Bool} {p : Prop} (h1 : a = true ↔ p) (h2 : b = true ↔ p) : a = b := by
  cases a <;> cases b <;> simp_all
theorem lead_eq {n : Nat} {l : List Ed} (he : ∀ e ∈ l, edIn n e = true) (i : Nat) (h : i < l.length) : hasI (waysL n (l.eraseIdx i) (erase_in he i) [l[i].1] []) l[i].2 = !(fun i => !leadS l n i) i := by
  have e1 : exc (i : Int) 0 l = l.eraseIdx i := by simpa using exc_at l 0 i
  have e2 : leadS l n i = hasI (rnds (l.eraseIdx i) n (marks (nexts l[i].1 (l.eraseIdx i)) [])) l[i].2 := by
    unfold leadS
    rw [e1]
    simp [List.getD, h]
  simp only [e2, Bool.not_not]
  exact bool_iff (ways_way (erase_in he i) l[i].1 l[i].2) (reach_way (erase_in he i) l[i].1 l[i].2)
theorem one_in : ∀ e ∈ [((0 : Int), (1 : Int))], edIn (2 : Nat) e = true := fun e h => by simp at h; subst h; rfl
theorem one_way : hasI (waysL 2 [((0 : Int), (1 : Int))] one_in [((0 : Nat) : Int)] []) ((1 : Nat) : Int) = true := (ways_way one_in _ _).2 (.one (e := (0, 1)) (by simp) rfl)
set_option maxRecDepth 100000 in
set_option maxHeartbeats 4000000 in
theorem e4 (fn : Func) (hr : fn.results = #[.tmp 2]) (s : List Int) (hs : s.length ≤ 9223372036854775807) : lim C0 4 fn [.c (code Try.f4)] ⟨number [.pv false (.sl (nums .u8 s))] 0, []⟩ = some (tf true, []) := by
  have hp12 := plan4_12
  simp [opsOf, code, Try.f4] at hp12
  have hL := bent_len (cur0 s)
  have q0 := p19 s hs
  generalize (bent (cur0 s)).1 = G at *
  obtain ⟨N, L⟩ := G
  simp only at hL q0
  have w1 : ∀ b, phi C0 (lim C0) 22 [.ag [(.pv false (.sc (.int .i64 2))), .pv b (.sl [[.sc (.int .i64 0), .sc (.int .i64 1)]])], (.pv false (.sc (.int .i64 0))), (.pv false (.sc (.int .i64 1)))] [] = some ((.pv false (.sc (.bool true))), []) := fun b => by
    have := p22 b 2 [((0 : Int), (1 : Int))] 0 1 (by omega) (by simp) (by rfl) one_in (by omega) (by omega)
    rw [one_way] at this
    exact this
  by_cases hg : gOk N L = true
  · obtain ⟨n, rfl, hn20, hl400, hch⟩ := gOk_n hg
    have hin : ∀ e ∈ L, edIn n e = true := fun e h => gChk_in hch e h
    by_cases ho : n ≤ (ordL n L []).length
    · have q1 := fun b => p20 b n L (fun i => !leadS L n i) hn20 hl400 hg hin ho (lead_eq hin)
      simp only [grTV] at q1
      have hB1 := kept_chk (n := n) hch
      have hBin : ∀ e ∈ kept n L, edIn n e = true := fun e h => gChk_in hB1 e h
      have hBl : (kept n L).length ≤ L.length := (kept_sub (n := n) (l := L)).length_le
      have hBg : gOk n (kept n L) = true := by
        have h400 : (kept n L).length ≤ 400 := by omega
        simp [gOk, hB1, h400]
        omega
      have q3 := fun b a c ha hc => p22 b n L a c hn20 hl400 hg hin ha hc
      have q4 := fun b a c ha hc => p22 b n (kept n L) a c hn20 (by omega) hBg hBin ha hc
      have hlw : ∀ a c : Nat, hasI (waysL n (kept n L) hBin [(a : Int)] []) c = hasI (waysL n L hin [(a : Int)] []) c := fun a c =>
        bool_iff ((ways_way hBin a c).trans (kept_way hch ho a c)) (ways_way hin a c)
      have q5 := fun b => p20 b n (kept n L) (fun i => !leadS (kept n L) n i) hn20 (by omega) hBg hBin (kept_full hch ho) (lead_eq hBin)
      rw [show bareL (fun i => !leadS (kept n L) n i) (kept n L) (kept n L).length = kept n L from kept_again hch] at q5
      have q6 := fun b => p23 b n (kept n L) (by omega)
      rw [hBg] at q6
      simp only [hlw] at q4
      generalize hWW : (fun a c : Nat => hasI (waysL n L hin [(a : Int)] []) c) = W at *
      have q3' : ∀ b (a c : Nat), a < n → c < n → phi C0 (lim C0) 22 [grTV b n L, (.pv false (.sc (.int .i64 ((a : Nat))))), (.pv false (.sc (.int .i64 ((c : Nat)))))] [] = some ((.pv false (.sc (.bool (W a c)))), []) := fun b a c ha hc => by rw [← hWW]; exact q3 b a c ha hc
      have q4' : ∀ b (a c : Nat), a < n → c < n → phi C0 (lim C0) 22 [grTV b n (kept n L), (.pv false (.sc (.int .i64 ((a : Nat))))), (.pv false (.sc (.int .i64 ((c : Nat)))))] [] = some ((.pv false (.sc (.bool (W a c)))), []) := fun b a c ha hc => by rw [← hWW]; exact q4 b a c ha hc
      clear q3 q4 hlw hWW
      simp only [grTV] at q1 q3' q4' q5 q6
      simp only [show bareL (fun i => !leadS L n i) L L.length = kept n L from rfl] at q1
      generalize kept n L = B at *
      simp [code, Try.f4, hr, hp12, q0, q1]
      clear q0 q1
      refine (loop_to (s0 := ?s1) (fun x => n - x) (fun x => [(8, (.pv false (.sc (.int .i64 ((x : Nat))))))]) (fun x => [(16, .box [(.pv false (.sc (.int .i64 ((n : Nat))))), .ref 18 0 L.length]), (18, .row .own 42 2 (eds L)), (20, .box [(.pv false (.sc (.int .i64 ((n : Nat))))), .ref 22 0 B.length]), (22, .row .own 42 2 (eds B))]) (fun x K => K [(8, (.pv false (.sc (.int .i64 ((n : Nat))))))] [(16, .box [(.pv false (.sc (.int .i64 ((n : Nat))))), .ref 18 0 L.length]), (18, .row .own 42 2 (eds L)), (20, .box [(.pv false (.sc (.int .i64 ((n : Nat))))), .ref 22 0 B.length]), (22, .row .own 42 2 (eds B))]) (fun x => x ≤ n) 0 ?hc1 ?h01 ?hs1 ?step1).trans ?r1
      case hc1 => simp; rfl
      case h01 => first | (simp; done) | (simp [*]; done) | exact ⟨by simp, ⟨rfl⟩⟩ | grind | (simp; omega)
      case hs1 => first | (simp; done) | (simp [*]; done)
      case r1 =>
        have hh : (B.length : Int) ≤ L.length := by omega
        simp [q5, q6, hr, hBl, hh, hr, hp12]
      intro k a ha ih
      simp
      (first | refine ifL_cases (fun h => ?_) (fun h => ?_) | refine gI_cases' (fun h => ?_) (fun h => ?_) | refine gI_cases (fun h => ?_) (fun h => ?_) | refine dI_cases' (fun h => ?_) (fun h => ?_) | refine dI_cases (fun h => ?_) (fun h => ?_)) <;> first | replace h := of_decide_eq_true h | replace h := of_decide_eq_false h | skip
      · have han := h
        simp [h]
        refine (loop_to (s0 := ?s2) (fun y => n - y) (fun y => [(9, (.pv false (.sc (.int .i64 ((y : Nat))))))]) (fun y => [(16, .box [(.pv false (.sc (.int .i64 ((n : Nat))))), .ref 18 0 L.length]), (18, .row .own 42 2 (eds L)), (20, .box [(.pv false (.sc (.int .i64 ((n : Nat))))), .ref 22 0 B.length]), (22, .row .own 42 2 (eds B))]) (fun y K => K [(9, (.pv false (.sc (.int .i64 ((n : Nat))))))] [(16, .box [(.pv false (.sc (.int .i64 ((n : Nat))))), .ref 18 0 L.length]), (18, .row .own 42 2 (eds L)), (20, .box [(.pv false (.sc (.int .i64 ((n : Nat))))), .ref 22 0 B.length]), (22, .row .own 42 2 (eds B))]) (fun y => y ≤ n) 0 ?hc2 ?h02 ?hs2 ?step2).trans ?r2
        case hc2 => simp; rfl
        case h02 => first | (simp; done) | (simp [*]; done) | exact ⟨by simp, ⟨rfl⟩⟩ | grind | (simp; omega)
        case hs2 => first | (simp; done) | (simp [*]; done)
        case r2 =>
          simp
          try simp (disch := omega) only [wrap_id']
          refine (ih.out (a + 1) _ ?_ ?_ ?_).trans ?_
          · omega
          · omega
          · simp
          · rfl
        clear ih
        intro k c hc ih
        simp
        (first | refine ifL_cases (fun h => ?_) (fun h => ?_) | refine gI_cases' (fun h => ?_) (fun h => ?_) | refine gI_cases (fun h => ?_) (fun h => ?_) | refine dI_cases' (fun h => ?_) (fun h => ?_) | refine dI_cases (fun h => ?_) (fun h => ?_)) <;> first | replace h := of_decide_eq_true h | replace h := of_decide_eq_false h | skip
        · simp [h, han, q3', q4', hr, hp12]
          try simp (disch := omega) only [wrap_id']
          refine (ih.out (c + 1) _ ?_ ?_ ?_).trans ?_
          · omega
          · omega
          · simp
          · rfl
        · have e : c = n := by omega
          subst e
          simp
      · have e : a = n := by omega
        subst e
        simp
    · have q1 := fun b => p20_ring b n L hl400 hg (by omega)
      have q2 := fun b => p21 b n L (by omega)
      simp only [grTV, hg] at q1 q2
      simp [ho] at q2
      simp [code, Try.f4, hr, hp12, q0, q1, q2, w1]
  · have hg' : gOk N L = false := by simpa using hg
    have q1 := fun b => p20_no b N L (by omega) hg'
    have q2 := fun b => p21 b N L (by omega)
    simp only [grTV, hg'] at q1 q2
    simp [code, Try.f4, hr, hp12, q0, q1, q2, w1]
theorem p4 (s : List Int) (hs : s.length ≤ 9223372036854775807) : phi C0 (lim C0) 4 [.pv false (.sl (nums .u8 s))] [] = some (tf true, []) := call0 Try.func4 (by kernel_rfl) (e4 Try.f4 Try.results4 s hs)
theorem run_ok (ps : List PV) (h : Shape C0 8 22 ps) : ∃ out, lim C0 4 Try.f4 [.c (code Try.f4)] ⟨number [argTV false ps] 0, []⟩ = some (tf true, out) := by
  simp only [Shape, C0_T, tyT22] at h
  obtain ⟨rows, rfl, h1, h2⟩ := h
  obtain ⟨l, rfl⟩ := nums_of (n := 6) (e := 5) tyT5 h2
  exact ⟨[], e4 Try.f4 Try.results4 l (by simpa [maxLen] using h1)⟩
set_option maxRecDepth 100000 in
theorem lifted (os : Os) (started : os.Started) (H : Type) (enc : TypeId × Value → H) :
    ReturnsInHanded {} Try.checked os 4 .any (Rows.fnBaresSpec.pre6 enc Try.prog Try.f4 Rows.fnBaresRow.domain false) (Rows.fnBaresSpec.post enc Try.prog Try.f4 false true false false) := by
  refine returnsInHanded_of_change_sized (C := Try.checked) own started (by kernel_rfl) Try.func4
    (ChangeSpec.witness6 (enc := enc) (C := Try.checked) false ⟨#[], #[.slice none 0 0], []⟩ 8 (by kernel_rfl) (by kernel_rfl) (by kernel_rfl) (by kernel_rfl)) ?_
  intro W base args ds gs before hval0 hW hcnd hsz0 _
  have hval : ∀ (j : Nat) t v, Try.f4.params[j]? = some t → args[j]? = some v → Value.okWide Try.prog W .any base t v := hval0
  have hW' := hW
  obtain ⟨p, q, hA0, hV, rfl, hfz, hnd⟩ := hW
  have hA : DataW.TrodAll enc Try.prog W 0 (fun _ => true) true Try.f4.params.toList args.toList ds p := hA0
  rw [Try.params4] at hA hval
  obtain ⟨v0, vs0, d0, ds0, p0, q0, hargs, rfl, rfl, h0, r0⟩ := trodAll_cons hA
  obtain ⟨rfl, rfl, rfl⟩ := trodAll_nil r0
  obtain rfl : args = #[v0] := by cases args; simp_all
  obtain ⟨rfl, rfl⟩ := trodVars_none hV
  have k0 := h0
  have lt0 : ∀ x ∈ p0, x.block < W.heap.size := by obtain ⟨m, hm⟩ := k0; exact DataW.trod_lt m _ _ _ hm
  obtain ⟨ps0, s0, z0⟩ := arg_rep (enc := enc) (C := C0) (W := W) (v := v0) tabOk (t := 22) (ti := ⟨1, 24, .slice 5, .nl⟩) (n := 8) (by kernel_rfl) (by kernel_rfl) (hval 0 22 v0 rfl rfl) h0
  obtain ⟨out, hl⟩ := run_ok ps0 s0
  have hcall := law_calls prog_ok (g := 4) (gn := Try.f4) Try.func4 (by rfl) hl (W := W) (vs := #[v0]) rfl (fun j t hj => by
    cases j with
    | zero => simp at hj; subst hj; exact z0
    | succ j =>
      simp at hj)
  refine hcall.mono fun e W' ⟨he, bel⟩ => ?_
  subst he
  exact ⟨_, rfl, _, _, _, [], _, [], hW', trodAll_mk1 (shut_bool Try.underlying4 _), (trodAll_cons_mk (Below.trod laidOut (by kernel_rfl) (of_decide_eq_true (by kernel_rfl)) k0 bel lt0) trodAll_mk0), rfl, bel.frame _, fun h => by cases h⟩
theorem over : Rows.fnBaresRow.holds Try.pinned (OpenSpec.ofChange Rows.fnBaresSpec) :=
  OpenClaim.holds_of_wide 4 Try.f4 rfl rfl rfl rfl rfl rfl rfl ⟨rfl, rfl, rfl, rfl, rfl⟩ rfl rfl rfl rfl rfl (by kernel_rfl) Try.func4 (by kernel_rfl)
    (of_decide_eq_true (by kernel_rfl)) (by unfold Func.isWrapper; first | (rw [if_pos (by decide +kernel)]; kernel_rfl) | (rw [if_neg (by decide +kernel)]; exact ⟨rfl, rfl⟩))
    (fun os started H enc _ => lifted os started H enc)
end Go.Proofs.Ytopoaemlbnkhgaa.lawBares
namespace Go.Proofs.Ytopoaemlbnkhgaa
theorem FnBares_holds : Rows.FnBaresSaid := lawBares.over
#print axioms FnBares_holds
end Go.Proofs.Ytopoaemlbnkhgaa
