/- Only, by the reference: copies. -/
import Derived.Test.YtgbfmdihmnpcdaaGreatDoorO1
import Derived.Test.YtgbfmdihmnpcdaaGreatDoorV10
namespace Go.Proofs.YtgbfmdihmnpcdaaGreatDoor
open Go Go.Pm Go.Proofs
set_option linter.unusedVariables false
set_option linter.unusedSimpArgs false
set_option maxRecDepth 100000
set_option maxHeartbeats 4000000
theorem p64 (b : Bool) (l : List (List Int)) (hl : lenBB l) : phi C0 (lim C0) 64 [.pv b (.sl (rws byP l))] [] = some (.nr 16 [] 0 l.length, [(16, .tree .own (rws byP l))]) := call0 Tryz.func64 (by kernel_rfl) ((show ∀ fn : Func, fn.results = #[.tmp 2] → globs fn = [0, 4, 8, 3, 2] → lim C0 64 fn [.c (code Tryz.f64)] ⟨_, _⟩ = _ from fun fn hr hg => by
  have h1 : l.length ≤ 1048576 := hl.1
  simp [code, Tryz.f64, hr, hg]
  refine (loop_to (s0 := ?s1) (fun x => l.length - x.1) (fun x => [(3, tnT 16 x.2), (4, (.pv false (.sc (.int .i64 ((x.1 : Nat))))))]) (fun x => tnH 16 byP x.2) (fun x K => K [(3, tnT 16 l), (4, (.pv false (.sc (.int .i64 l.length))))] (tnH 16 byP l)) (fun x => x.1 ≤ l.length ∧ x.2 ++ l.drop x.1 = l) (0, ([] : List (List Int))) ?hc1 ?h01 ?hs1 ?step1).trans ?r1
  case hc1 => simp; rfl
  case h01 => first | (simp; done) | (simp [*]; done) | exact ⟨by simp, ⟨rfl⟩⟩ | grind | (simp; omega)
  case hs1 => first | (simp; done) | (simp [*]; done)
  case r1 => cases l <;> simp [hg, rws, hr, hg]
  rintro k ⟨i, acc⟩ ⟨hi, ha⟩ ih
  simp at hi ha
  simp [hg]
  have q1 : Spare 0 0 = False := by simp [hg, Spare]
  by_cases h : i < l.length
  · have hb : l[i].length ≤ 1048576 := hl.2 _ (List.getElem_mem h)
    have g1 : l[i].length ≤ Pm.roomBytes := by unfold Pm.roomBytes; omega
    have g2 : l[i].length ≤ Pm.maxL := by unfold Pm.maxL; omega
    have g3 : (∀ (r : List PV), r ∈ rws (numP .u8) l[i] → r.length = 1) = True := eq_true (rws_all _ _ fun _ => rfl)
    have hlen : acc.length + (l.length - i) = l.length := by have := congrArg List.length ha; simpa using this
    have e5 : (acc ++ [l[i]]) ++ l.drop (i + 1) = l := by rw [List.append_assoc, List.singleton_append, ← drop_at h]; exact ha
    have g4 : ∀ acc : List (List Int), (∀ (r : List PV), r ∈ rws byP acc → r.length = 1) = True := fun acc => eq_true (rws_all _ _ fun _ => rfl)
    have m3 : (acc.length + 1) * 24 ≤ Pm.roomBytes := by unfold Pm.roomBytes; omega
    have m4 : acc.length + 1 ≤ Pm.maxL := by unfold Pm.maxL; omega
    rcases acc with _ | ⟨a0, acc⟩
    · simp at m3 m4 e5
      simp [hg, q1, g1, g2, g3, h, byP, m3, m4, hr, hg]
      try simp (disch := omega) only [wrap_id']
      refine (ih.out (i + 1, [l[i]]) _ ?_ ?_ ?_).trans ?_
      · simp [hg]; omega
      · exact ⟨by simp [hg]; omega, by simpa using e5⟩
      · simp [hg, byP, rws]
      · rfl
    · simp at m3 m4 e5
      simp [hg, q1, g1, g2, g3, h, byP, m3, m4, g4, hr, hg]
      try simp (disch := omega) only [wrap_id']
      refine (ih.out (i + 1, a0 :: (acc ++ [l[i]])) _ ?_ ?_ ?_).trans ?_
      · simp [hg]; omega
      · exact ⟨by simp [hg]; omega, by simpa using e5⟩
      · simp [hg, byP, rws]
      · rfl
  · have e : i = l.length := by omega
    subst e
    simp at ha
    subst ha
    cases acc <;> simp [hg]
  ) Tryz.f64 Tryz.results64 gl64)
theorem p63 (v : Val) (hv : VLen v) (b1 b2 b3 : Bool) (ih0 : ∀ u ∈ v.l, ∀ b1 b2 b3 : Bool, phi C0 (lim C0) 63 [.ag [(.pv false (.sc (.int .i64 u.kind))), (.pv false (.sc (.int .i64 u.n))), .pv b1 (.sl (nums .u8 u.s)), .pv b2 (.sl (rws byP u.k)), .pv b3 (.sl (rws vP u.l))]] [] = some (.ag (vT 16 u), vO 16 u)) : phi C0 (lim C0) 63 [.ag [(.pv false (.sc (.int .i64 v.kind))), (.pv false (.sc (.int .i64 v.n))), .pv b1 (.sl (nums .u8 v.s)), .pv b2 (.sl (rws byP v.k)), .pv b3 (.sl (rws vP v.l))]] [] = some (.ag (vT 16 v), vO 16 v) := call0 Tryz.func63 (by kernel_rfl) ((show ∀ fn : Func, fn.results = #[.cell 2 67] → globs fn = [0, 1, 4, 19, 3, 5, 38, 2] → lim C0 63 fn [.c (code Tryz.f63)] ⟨_, _⟩ = _ from fun fn hr hg => by
  have hp1 := plan63_1
  simp [opsOf, code, Tryz.f63] at hp1
  have hp5 := plan63_5
  simp [opsOf, code, Tryz.f63] at hp5
  have hp9 := plan63_9
  simp [opsOf, code, Tryz.f63] at hp9
  have h1 : v.l.length ≤ 1048576 := hv.here.2.2
  have g1 : v.s.length ≤ Pm.roomBytes := by have := hv.here.1; unfold lenB at this; unfold Pm.roomBytes; omega
  have g2 : v.s.length ≤ Pm.maxL := by have := hv.here.1; unfold lenB at this; unfold Pm.maxL; omega
  have g3 : (∀ (r : List PV), r ∈ rws (numP .u8) v.s → r.length = 1) = True := eq_true (rws_all _ _ fun _ => rfl)
  have g4 : Spare 0 0 = False := by simp [hg, Spare]
  simp [code, Tryz.f63, hr, hg, hp1, hp5, hp9, g1, g2, g3, g4]
  have k1 : v.k.length ≤ 1048576 := hv.here.2.1.1
  refine (loop_to (s0 := ?s2) (fun x => v.k.length - x.1) (fun x => [(4, (.pv false (.sc (.int .i64 ((x.1 : Nat))))))]) (fun x => [(16, .box [(.pv false (.sc (.int .i64 v.kind))), (.pv false (.sc (.int .i64 v.n))), .pv b1 (.sl (nums .u8 v.s)), .pv b2 (.sl (rws byP v.k)), .pv b3 (.sl (rws vP v.l))]), (18, .box [(.pv false (.sc (.int .i64 0))), (.pv false (.sc (.int .i64 0))), .nl, .nl, .nl]), (20, .box [(.pv false (.sc (.int .i64 v.kind))), (.pv false (.sc (.int .i64 v.n))), .ref 22 0 v.s.length, tnT 24 x.2, .nl]), (22, .row .own 5 1 (nums .u8 v.s))] ++ tnH 24 byP x.2) (fun x K => K [(4, (.pv false (.sc (.int .i64 v.k.length))))] ([(16, .box [(.pv false (.sc (.int .i64 v.kind))), (.pv false (.sc (.int .i64 v.n))), .pv b1 (.sl (nums .u8 v.s)), .pv b2 (.sl (rws byP v.k)), .pv b3 (.sl (rws vP v.l))]), (18, .box [(.pv false (.sc (.int .i64 0))), (.pv false (.sc (.int .i64 0))), .nl, .nl, .nl]), (20, .box [(.pv false (.sc (.int .i64 v.kind))), (.pv false (.sc (.int .i64 v.n))), .ref 22 0 v.s.length, tnT 24 v.k, .nl]), (22, .row .own 5 1 (nums .u8 v.s))] ++ tnH 24 byP v.k)) (fun x => x.1 ≤ v.k.length ∧ x.2 ++ v.k.drop x.1 = v.k) (0, ([] : List (List Int))) ?hc2 ?h02 ?hs2 ?step2).trans ?r2
  case hc2 => simp; rfl
  case h02 => first | (simp; done) | (simp [*]; done) | exact ⟨by simp, ⟨rfl⟩⟩ | grind | (simp; omega)
  case hs2 => first | (simp; done) | (simp [*]; done)
  case r2 =>
    cases hk : v.k with
    | nil =>
      simp [hg, hk, hr, hg, hp1, hp5, hp9]
      refine (loop_to (s0 := ?s3) (fun x => v.l.length - x.1) (fun x => [(5, (.pv false (.sc (.int .i64 ((x.1 : Nat))))))]) (fun x => [(16, .box [(.pv false (.sc (.int .i64 v.kind))), (.pv false (.sc (.int .i64 v.n))), .pv b1 (.sl (nums .u8 v.s)), .pv b2 (.sl []), .pv b3 (.sl (rws vP v.l))]), (18, .box [(.pv false (.sc (.int .i64 0))), (.pv false (.sc (.int .i64 0))), .nl, .nl, .nl]), (20, .box [(.pv false (.sc (.int .i64 v.kind))), (.pv false (.sc (.int .i64 v.n))), .ref 22 0 v.s.length, .nl, tnT 24 x.2]), (22, .row .own 5 1 (nums .u8 v.s))] ++ tnH 24 vP x.2) (fun x K => K [(5, (.pv false (.sc (.int .i64 v.l.length))))] ([(16, .box [(.pv false (.sc (.int .i64 v.kind))), (.pv false (.sc (.int .i64 v.n))), .pv b1 (.sl (nums .u8 v.s)), .pv b2 (.sl []), .pv b3 (.sl (rws vP v.l))]), (18, .box [(.pv false (.sc (.int .i64 0))), (.pv false (.sc (.int .i64 0))), .nl, .nl, .nl]), (20, .box [(.pv false (.sc (.int .i64 v.kind))), (.pv false (.sc (.int .i64 v.n))), .ref 22 0 v.s.length, .nl, tnT 24 v.l]), (22, .row .own 5 1 (nums .u8 v.s))] ++ tnH 24 vP v.l)) (fun x => x.1 ≤ v.l.length ∧ x.2 ++ v.l.drop x.1 = v.l) (0, ([] : List Val)) ?hc3 ?h03 ?hs3 ?step3).trans ?r3
      case hc3 => simp; rfl
      case h03 => first | (simp; done) | (simp [*]; done) | exact ⟨by simp, ⟨rfl⟩⟩ | grind | (simp; omega)
      case hs3 => first | (simp; done) | (simp [*]; done)
      case r3 => cases hq : v.l <;> simp [hg, hk, hq, rws, hr, hg, hp1, hp5, hp9]
      rintro k ⟨i, acc⟩ ⟨hi, ha⟩ ih
      simp at hi ha
      simp [hg]
      by_cases h : i < v.l.length
      · have q := ih0 v.l[i] (List.getElem_mem h)
        have hlen : acc.length + (v.l.length - i) = v.l.length := by have := congrArg List.length ha; simpa using this
        have e5 : (acc ++ [v.l[i]]) ++ v.l.drop (i + 1) = v.l := by rw [List.append_assoc, List.singleton_append, ← drop_at h]; exact ha
        have g5 : ∀ acc : List Val, (∀ (r : List PV), r ∈ rws vP acc → r.length = 5) = True := fun acc => eq_true (rws_all _ _ fun _ => by simp [hg])
        have m3 : (acc.length + 1) * 88 ≤ Pm.roomBytes := by unfold Pm.roomBytes; omega
        have m4 : acc.length + 1 ≤ Pm.maxL := by unfold Pm.maxL; omega
        rcases acc with _ | ⟨a0, acc⟩
        · simp at m3 m4 e5
          simp [hg, q, h, m3, m4, hr, hg, hp1, hp5, hp9]
          try simp (disch := omega) only [wrap_id']
          refine (ih.out (i + 1, [v.l[i]]) _ ?_ ?_ ?_).trans ?_
          · simp [hg]; omega
          · exact ⟨by simp [hg]; omega, by simpa using e5⟩
          · simp [hg, rws]
          · rfl
        · simp at m3 m4 e5
          simp [hg, q, h, m3, m4, g5, hr, hg, hp1, hp5, hp9]
          try simp (disch := omega) only [wrap_id']
          refine (ih.out (i + 1, a0 :: (acc ++ [v.l[i]])) _ ?_ ?_ ?_).trans ?_
          · simp [hg]; omega
          · exact ⟨by simp [hg]; omega, by simpa using e5⟩
          · simp [hg, rws]
          · rfl
      · have e : i = v.l.length := by omega
        subst e
        simp at ha
        cases hq : v.l with
        | nil => rw [hq] at ha; subst ha; simp [hg, hq]
        | cons v0 vv => rw [hq] at ha; subst ha; simp [hg, hq]
    | cons k0 kk =>
      have hkk : rws byP (k0 :: kk) = byP k0 :: rws byP kk := rfl
      simp [hg, hk, hkk, hr, hg, hp1, hp5, hp9]
      refine (loop_to (s0 := ?s4) (fun x => v.l.length - x.1) (fun x => [(5, (.pv false (.sc (.int .i64 ((x.1 : Nat))))))]) (fun x => [(16, .box [(.pv false (.sc (.int .i64 v.kind))), (.pv false (.sc (.int .i64 v.n))), .pv b1 (.sl (nums .u8 v.s)), .pv b2 (.sl (byP k0 :: rws byP kk)), .pv b3 (.sl (rws vP v.l))]), (18, .box [(.pv false (.sc (.int .i64 0))), (.pv false (.sc (.int .i64 0))), .nl, .nl, .nl]), (20, .box [(.pv false (.sc (.int .i64 v.kind))), (.pv false (.sc (.int .i64 v.n))), .ref 22 0 v.s.length, .nr 24 [] 0 (kk.length + 1), tnT 26 x.2]), (22, .row .own 5 1 (nums .u8 v.s)), (24, .tree .own (byP k0 :: rws byP kk))] ++ tnH 26 vP x.2) (fun x K => K [(5, (.pv false (.sc (.int .i64 v.l.length))))] ([(16, .box [(.pv false (.sc (.int .i64 v.kind))), (.pv false (.sc (.int .i64 v.n))), .pv b1 (.sl (nums .u8 v.s)), .pv b2 (.sl (byP k0 :: rws byP kk)), .pv b3 (.sl (rws vP v.l))]), (18, .box [(.pv false (.sc (.int .i64 0))), (.pv false (.sc (.int .i64 0))), .nl, .nl, .nl]), (20, .box [(.pv false (.sc (.int .i64 v.kind))), (.pv false (.sc (.int .i64 v.n))), .ref 22 0 v.s.length, .nr 24 [] 0 (kk.length + 1), tnT 26 v.l]), (22, .row .own 5 1 (nums .u8 v.s)), (24, .tree .own (byP k0 :: rws byP kk))] ++ tnH 26 vP v.l)) (fun x => x.1 ≤ v.l.length ∧ x.2 ++ v.l.drop x.1 = v.l) (0, ([] : List Val)) ?hc4 ?h04 ?hs4 ?step4).trans ?r4
      case hc4 => simp; rfl
      case h04 => first | (simp; done) | (simp [*]; done) | exact ⟨by simp, ⟨rfl⟩⟩ | grind | (simp; omega)
      case hs4 => first | (simp; done) | (simp [*]; done)
      case r4 => cases hq : v.l <;> simp [hg, hk, hq, rws, hr, hg, hp1, hp5, hp9]
      rintro k ⟨i, acc⟩ ⟨hi, ha⟩ ih
      simp at hi ha
      simp [hg]
      by_cases h : i < v.l.length
      · have q := ih0 v.l[i] (List.getElem_mem h)
        have hlen : acc.length + (v.l.length - i) = v.l.length := by have := congrArg List.length ha; simpa using this
        have e5 : (acc ++ [v.l[i]]) ++ v.l.drop (i + 1) = v.l := by rw [List.append_assoc, List.singleton_append, ← drop_at h]; exact ha
        have g5 : ∀ acc : List Val, (∀ (r : List PV), r ∈ rws vP acc → r.length = 5) = True := fun acc => eq_true (rws_all _ _ fun _ => by simp [hg])
        have m3 : (acc.length + 1) * 88 ≤ Pm.roomBytes := by unfold Pm.roomBytes; omega
        have m4 : acc.length + 1 ≤ Pm.maxL := by unfold Pm.maxL; omega
        rcases acc with _ | ⟨a0, acc⟩
        · simp at m3 m4 e5
          simp [hg, q, h, m3, m4, hr, hg, hp1, hp5, hp9]
          try simp (disch := omega) only [wrap_id']
          refine (ih.out (i + 1, [v.l[i]]) _ ?_ ?_ ?_).trans ?_
          · simp [hg]; omega
          · exact ⟨by simp [hg]; omega, by simpa using e5⟩
          · simp [hg, rws]
          · rfl
        · simp at m3 m4 e5
          simp [hg, q, h, m3, m4, g5, hr, hg, hp1, hp5, hp9]
          try simp (disch := omega) only [wrap_id']
          refine (ih.out (i + 1, a0 :: (acc ++ [v.l[i]])) _ ?_ ?_ ?_).trans ?_
          · simp [hg]; omega
          · exact ⟨by simp [hg]; omega, by simpa using e5⟩
          · simp [hg, rws]
          · rfl
      · have e : i = v.l.length := by omega
        subst e
        simp at ha
        cases hq : v.l with
        | nil => rw [hq] at ha; subst ha; simp [hg, hq]
        | cons v0 vv => rw [hq] at ha; subst ha; simp [hg, hq]
  rintro k ⟨i, acc⟩ ⟨hi, ha⟩ ih
  simp at hi ha
  simp [hg]
  by_cases h : i < v.k.length
  · have hb : v.k[i].length ≤ 1048576 := hv.here.2.1.2 _ (List.getElem_mem h)
    have g1 : v.k[i].length ≤ Pm.roomBytes := by unfold Pm.roomBytes; omega
    have g2 : v.k[i].length ≤ Pm.maxL := by unfold Pm.maxL; omega
    have g3 : (∀ (r : List PV), r ∈ rws (numP .u8) v.k[i] → r.length = 1) = True := eq_true (rws_all _ _ fun _ => rfl)
    have hlen : acc.length + (v.k.length - i) = v.k.length := by have := congrArg List.length ha; simpa using this
    have e5 : (acc ++ [v.k[i]]) ++ v.k.drop (i + 1) = v.k := by rw [List.append_assoc, List.singleton_append, ← drop_at h]; exact ha
    have g5 : ∀ acc : List (List Int), (∀ (r : List PV), r ∈ rws byP acc → r.length = 1) = True := fun acc => eq_true (rws_all _ _ fun _ => rfl)
    have m3 : (acc.length + 1) * 24 ≤ Pm.roomBytes := by unfold Pm.roomBytes; omega
    have m4 : acc.length + 1 ≤ Pm.maxL := by unfold Pm.maxL; omega
    rcases acc with _ | ⟨a0, acc⟩
    · simp at m3 m4 e5
      simp [hg, g4, g1, g2, g3, h, byP, m3, m4, hr, hg, hp1, hp5, hp9]
      try simp (disch := omega) only [wrap_id']
      refine (ih.out (i + 1, [v.k[i]]) _ ?_ ?_ ?_).trans ?_
      · simp [hg]; omega
      · exact ⟨by simp [hg]; omega, by simpa using e5⟩
      · simp [hg, byP, rws]
      · rfl
    · simp at m3 m4 e5
      simp [hg, g4, g1, g2, g3, h, byP, m3, m4, g5, hr, hg, hp1, hp5, hp9]
      try simp (disch := omega) only [wrap_id']
      refine (ih.out (i + 1, a0 :: (acc ++ [v.k[i]])) _ ?_ ?_ ?_).trans ?_
      · simp [hg]; omega
      · exact ⟨by simp [hg]; omega, by simpa using e5⟩
      · simp [hg, byP, rws]
      · rfl
  · have e : i = v.k.length := by omega
    subst e
    simp at ha
    cases hk : v.k with
    | nil => rw [hk] at ha; subst ha; simp [hg, hk]
    | cons k0 kk => rw [hk] at ha; subst ha; simp [hg, hk]
  ) Tryz.f63 Tryz.results63 gl63)
theorem pOwnV (v : Val) (hv : VLen v) : ∀ (b1 b2 b3 : Bool), phi C0 (lim C0) 63 [.ag [(.pv false (.sc (.int .i64 v.kind))), (.pv false (.sc (.int .i64 v.n))), .pv b1 (.sl (nums .u8 v.s)), .pv b2 (.sl (rws byP v.k)), .pv b3 (.sl (rws vP v.l))]] [] = some (.ag (vT 16 v), vO 16 v) := by
  revert hv
  refine Val.ind1 (P := fun v => VLen v → ∀ (b1 b2 b3 : Bool), phi C0 (lim C0) 63 [.ag [(.pv false (.sc (.int .i64 v.kind))), (.pv false (.sc (.int .i64 v.n))), .pv b1 (.sl (nums .u8 v.s)), .pv b2 (.sl (rws byP v.k)), .pv b3 (.sl (rws vP v.l))]] [] = some (.ag (vT 16 v), vO 16 v)) (fun v ih hv b1 b2 b3 => ?_) v
  exact p63 v hv b1 b2 b3 fun u hu => ih u hu (hv.sub u hu)
theorem p24 (b : Bool) (l : List Act) (same : Int) (hl : l.length ≤ 1048576) (ha : ∀ a ∈ l, ALen a) : phi C0 (lim C0) 24 [.ag [.pv b (.sl (rws aP l)), (.pv false (.sc (.int .i64 same)))]] [] = some (.ag [.nr 16 [] 0 l.length, (.pv false (.sc (.int .i64 same)))], [(16, .tree .own (rws aP l))]) := call0 Tryz.func24 (by kernel_rfl) ((show ∀ fn : Func, fn.results = #[.cell 2 29] → globs fn = [0, 1, 4, 13, 3, 5, 2] → lim C0 24 fn [.c (code Tryz.f24)] ⟨_, _⟩ = _ from fun fn hr hg => by
  have hp6 := plan24_6
  simp [opsOf, code, Tryz.f24] at hp6
  simp [code, Tryz.f24, hr, hg, hp6]
  refine (loop_to (s0 := ?s5) (fun x => l.length - x.1) (fun x => [(4, (.pv false (.sc (.int .i64 ((x.1 : Nat))))))]) (fun x => [(16, .box [.pv b (.sl (rws aP l)), (.pv false (.sc (.int .i64 same)))]), (18, .box [.nl, (.pv false (.sc (.int .i64 0)))]), (20, .box [tnT 22 x.2, (.pv false (.sc (.int .i64 same)))])] ++ tnH 22 aP x.2) (fun x K => K [(4, (.pv false (.sc (.int .i64 l.length))))] ([(16, .box [.pv b (.sl (rws aP l)), (.pv false (.sc (.int .i64 same)))]), (18, .box [.nl, (.pv false (.sc (.int .i64 0)))]), (20, .box [tnT 22 l, (.pv false (.sc (.int .i64 same)))])] ++ tnH 22 aP l)) (fun x => x.1 ≤ l.length ∧ x.2 ++ l.drop x.1 = l) (0, ([] : List Act)) ?hc5 ?h05 ?hs5 ?step5).trans ?r5
  case hc5 => simp; rfl
  case h05 => first | (simp; done) | (simp [*]; done) | exact ⟨by simp, ⟨rfl⟩⟩ | grind | (simp; omega)
  case hs5 => first | (simp; done) | (simp [*]; done)
  case r5 => cases hq : l <;> simp [hg, hq, rws, hr, hg, hp6]
  rintro k ⟨i, acc⟩ ⟨hi, hac⟩ ih
  simp at hi hac
  simp [hg]
  by_cases h : i < l.length
  · have hA := ha _ (List.getElem_mem h)
    have hb : l[i].addr.length ≤ 1048576 := hA.addr
    have g1 : l[i].addr.length ≤ Pm.roomBytes := by unfold Pm.roomBytes; omega
    have g2 : l[i].addr.length ≤ Pm.maxL := by unfold Pm.maxL; omega
    have g3 : (∀ (r : List PV), r ∈ rws (numP .u8) l[i].addr → r.length = 1) = True := eq_true (rws_all _ _ fun _ => rfl)
    have g4 : Spare 0 0 = False := by simp [hg, Spare]
    have q1 := pOwnV l[i].val hA.vl
    have q2 := fun b => p64 b l[i].deps hA.dl
    have hlen : acc.length + (l.length - i) = l.length := by have := congrArg List.length hac; simpa using this
    have e5 : (acc ++ [l[i]]) ++ l.drop (i + 1) = l := by rw [List.append_assoc, List.singleton_append, ← drop_at h]; exact hac
    have g5 : ∀ acc : List Act, (∀ (r : List PV), r ∈ rws aP acc → r.length = 9) = True := fun acc => eq_true (rws_all _ _ fun _ => by simp [hg])
    have m3 : (acc.length + 1) * 152 ≤ Pm.roomBytes := by unfold Pm.roomBytes; omega
    have m4 : acc.length + 1 ≤ Pm.maxL := by unfold Pm.maxL; omega
    rcases acc with _ | ⟨a0, acc⟩
    · simp at m3 m4 e5
      simp [hg, q1, q2, g1, g2, g3, g4, h, m3, m4, hr, hg, hp6]
      try simp (disch := omega) only [wrap_id']
      refine (ih.out (i + 1, [l[i]]) _ ?_ ?_ ?_).trans ?_
      · simp [hg]; omega
      · exact ⟨by simp [hg]; omega, by simpa using e5⟩
      · simp [hg, rws]
      · rfl
    · simp at m3 m4 e5
      simp [hg, q1, q2, g1, g2, g3, g4, h, m3, m4, g5, hr, hg, hp6]
      try simp (disch := omega) only [wrap_id']
      refine (ih.out (i + 1, a0 :: (acc ++ [l[i]])) _ ?_ ?_ ?_).trans ?_
      · simp [hg]; omega
      · exact ⟨by simp [hg]; omega, by simpa using e5⟩
      · simp [hg, rws]
      · rfl
  · have e : i = l.length := by omega
    subst e
    simp at hac
    subst hac
    cases acc <;> simp [hg]
  ) Tryz.f24 Tryz.results24 gl24)
end Go.Proofs.YtgbfmdihmnpcdaaGreatDoor
