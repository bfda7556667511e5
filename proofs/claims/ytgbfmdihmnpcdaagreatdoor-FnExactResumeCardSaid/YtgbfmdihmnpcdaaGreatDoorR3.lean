/- Copies as trees, by the reference. -/
import Derived.Test.YtgbfmdihmnpcdaaGreatDoorR2
namespace Go.Proofs.YtgbfmdihmnpcdaaGreatDoor
open Go Go.Pm Go.Proofs
set_option linter.unusedVariables false
set_option linter.unusedSimpArgs false
set_option maxRecDepth 100000
set_option maxHeartbeats 4000000
theorem t64 (b : Bool) (l : List (List Int)) (hl : lenBB l) : phi C3 (lim C3) 64 [.pv b (.sl (rws byP l))] [] = some (.nr 16 [] 0 l.length, [(16, .tree .own (rws byP l))]) := call3 Tryz.func64 (by kernel_rfl) ((show ∀ fn : Func, fn.results = #[.tmp 2] → globs fn = [0, 4, 8, 3, 2] → lim C3 64 fn [.c (code Tryz.f64)] ⟨_, _⟩ = _ from fun fn hr hg => by
 have h1 : l.length ≤ 1048576 := hl.1
 simp [code, Tryz.f64, hr, hg]
 refine (loop_to (s0 := ?s1) (fun x => l.length - x.1) (fun x => [(3, tnT 16 x.2), (4, (iv ((x.1 : Nat))))]) (fun x => tnH 16 byP x.2) (fun x K => K [(3, tnT 16 l), (4, (iv l.length))] (tnH 16 byP l)) (fun x => x.1 ≤ l.length ∧ x.2 ++ l.drop x.1 = l) (0, ([] : List (List Int))) ?hc1 ?h01 ?hs1 ?step1).trans ?r1
 case hc1 => simp; rfl
 case h01 => first | (simp; done) | (simp [*]; done) | exact ⟨by simp, ⟨rfl⟩⟩ | grind | (simp; omega)
 case hs1 => first | (simp; done) | (simp [*]; done)
 case r1 => cases l <;> simp [hg, rws, hr, hg]
 rintro k ⟨i, acc⟩ ⟨hi, ha⟩ ih
 simp at hi ha
 simp [hg]
 have q1 : Spare 0 0 = False := by simp [hg, Spare]
 by_cases h : i < l.length
 · have hb : l[i].length ≤ 1048576 := hl.2 _ (List.getElem_mem h)
   have g1 : l[i].length ≤ Pm.roomBytes := by unfold Pm.roomBytes; omega
   have g2 : l[i].length ≤ Pm.maxL := by unfold Pm.maxL; omega
   have g3 : (∀ (r : List PV), r ∈ rws (numP .u8) l[i] → r.length = 1) = True := eq_true (rws_all _ _ fun _ => rfl)
   have hlen : acc.length + (l.length - i) = l.length := by have := congrArg List.length ha; simpa using this
   have e5 : (acc ++ [l[i]]) ++ l.drop (i + 1) = l := by rw [List.append_assoc, List.singleton_append, ← drop_at h]; exact ha
   have g4 : ∀ acc : List (List Int), (∀ (r : List PV), r ∈ rws byP acc → r.length = 1) = True := fun acc => eq_true (rws_all _ _ fun _ => rfl)
   have m3 : (acc.length + 1) * 24 ≤ Pm.roomBytes := by unfold Pm.roomBytes; omega
   have m4 : acc.length + 1 ≤ Pm.maxL := by unfold Pm.maxL; omega
   rcases acc with _ | ⟨a0, acc⟩
   · simp at m3 m4 e5
     simp [hg, q1, g1, g2, g3, h, byP, m3, m4, hr, hg]
     try simp (disch := omega) only [wrap_id']
     refine (ih.out (i + 1, [l[i]]) _ ?_ ?_ ?_).trans ?_
     · simp [hg]; omega
     · exact ⟨by simp [hg]; omega, by simpa using e5⟩
     · simp [hg, byP, rws]
     · rfl
   · simp at m3 m4 e5
     simp [hg, q1, g1, g2, g3, h, byP, m3, m4, g4, hr, hg]
     try simp (disch := omega) only [wrap_id']
     refine (ih.out (i + 1, a0 :: (acc ++ [l[i]])) _ ?_ ?_ ?_).trans ?_
     · simp [hg]; omega
     · exact ⟨by simp [hg]; omega, by simpa using e5⟩
     · simp [hg, byP, rws]
     · rfl
 · have e : i = l.length := by omega
   subst e
   simp at ha
   subst ha
   cases acc <;> simp [hg]
 ) Tryz.f64 Tryz.results64 gl64)
theorem t63 (v : Val) (hv : VLen v) (b1 b2 b3 : Bool) (ih0 : ∀ u ∈ v.l, ∀ b1 b2 b3 : Bool, phi C3 (lim C3) 63 [.ag [(iv u.kind), (iv u.n), .pv b1 (.sl (nums .u8 u.s)), .pv b2 (.sl (rws byP u.k)), .pv b3 (.sl (rws vP u.l))]] [] = some (.ag (vT 16 u), vO 16 u)) : phi C3 (lim C3) 63 [.ag [(iv v.kind), (iv v.n), .pv b1 (.sl (nums .u8 v.s)), .pv b2 (.sl (rws byP v.k)), .pv b3 (.sl (rws vP v.l))]] [] = some (.ag (vT 16 v), vO 16 v) := call3 Tryz.func63 (by kernel_rfl) ((show ∀ fn : Func, fn.results = #[.cell 2 67] → globs fn = [0, 1, 4, 19, 3, 5, 38, 2] → lim C3 63 fn [.c (code Tryz.f63)] ⟨_, _⟩ = _ from fun fn hr hg => by
 have hp1 := plan63_1
 simp [opsOf, code, Tryz.f63] at hp1
 have hp5 := plan63_5
 simp [opsOf, code, Tryz.f63] at hp5
 have hp9 := plan63_9
 simp [opsOf, code, Tryz.f63] at hp9
 have h1 : v.l.length ≤ 1048576 := hv.here.2.2
 have g1 : v.s.length ≤ Pm.roomBytes := by have := hv.here.1; unfold lenB at this; unfold Pm.roomBytes; omega
 have g2 : v.s.length ≤ Pm.maxL := by have := hv.here.1; unfold lenB at this; unfold Pm.maxL; omega
 have g3 : (∀ (r : List PV), r ∈ rws (numP .u8) v.s → r.length = 1) = True := eq_true (rws_all _ _ fun _ => rfl)
 have g4 : Spare 0 0 = False := by simp [hg, Spare]
 simp [code, Tryz.f63, hr, hg, hp1, hp5, hp9, g1, g2, g3, g4]
 have k1 : v.k.length ≤ 1048576 := hv.here.2.1.1
 refine (loop_to (s0 := ?s2) (fun x => v.k.length - x.1) (fun x => [(4, (iv ((x.1 : Nat))))]) (fun x => [(16, .box [(iv v.kind), (iv v.n), .pv b1 (.sl (nums .u8 v.s)), .pv b2 (.sl (rws byP v.k)), .pv b3 (.sl (rws vP v.l))]), (18, .box [(iv 0), (iv 0), .nl, .nl, .nl]), (20, .box [(iv v.kind), (iv v.n), .ref 22 0 v.s.length, tnT 24 x.2, .nl]), (22, .row .own 5 1 (nums .u8 v.s))] ++ tnH 24 byP x.2) (fun x K => K [(4, (iv v.k.length))] ([(16, .box [(iv v.kind), (iv v.n), .pv b1 (.sl (nums .u8 v.s)), .pv b2 (.sl (rws byP v.k)), .pv b3 (.sl (rws vP v.l))]), (18, .box [(iv 0), (iv 0), .nl, .nl, .nl]), (20, .box [(iv v.kind), (iv v.n), .ref 22 0 v.s.length, tnT 24 v.k, .nl]), (22, .row .own 5 1 (nums .u8 v.s))] ++ tnH 24 byP v.k)) (fun x => x.1 ≤ v.k.length ∧ x.2 ++ v.k.drop x.1 = v.k) (0, ([] : List (List Int))) ?hc2 ?h02 ?hs2 ?step2).trans ?r2
 case hc2 => simp; rfl
 case h02 => first | (simp; done) | (simp [*]; done) | exact ⟨by simp, ⟨rfl⟩⟩ | grind | (simp; omega)
 case hs2 => first | (simp; done) | (simp [*]; done)
 case r2 =>
  cases hk : v.k with
  | nil =>
   simp [hg, hk, hr, hg, hp1, hp5, hp9]
   refine (loop_to (s0 := ?s3) (fun x => v.l.length - x.1) (fun x => [(5, (iv ((x.1 : Nat))))]) (fun x => [(16, .box [(iv v.kind), (iv v.n), .pv b1 (.sl (nums .u8 v.s)), .pv b2 (.sl []), .pv b3 (.sl (rws vP v.l))]), (18, .box [(iv 0), (iv 0), .nl, .nl, .nl]), (20, .box [(iv v.kind), (iv v.n), .ref 22 0 v.s.length, .nl, tnT 24 x.2]), (22, .row .own 5 1 (nums .u8 v.s))] ++ tnH 24 vP x.2) (fun x K => K [(5, (iv v.l.length))] ([(16, .box [(iv v.kind), (iv v.n), .pv b1 (.sl (nums .u8 v.s)), .pv b2 (.sl []), .pv b3 (.sl (rws vP v.l))]), (18, .box [(iv 0), (iv 0), .nl, .nl, .nl]), (20, .box [(iv v.kind), (iv v.n), .ref 22 0 v.s.length, .nl, tnT 24 v.l]), (22, .row .own 5 1 (nums .u8 v.s))] ++ tnH 24 vP v.l)) (fun x => x.1 ≤ v.l.length ∧ x.2 ++ v.l.drop x.1 = v.l) (0, ([] : List Val)) ?hc3 ?h03 ?hs3 ?step3).trans ?r3
   case hc3 => simp; rfl
   case h03 => first | (simp; done) | (simp [*]; done) | exact ⟨by simp, ⟨rfl⟩⟩ | grind | (simp; omega)
   case hs3 => first | (simp; done) | (simp [*]; done)
   case r3 => cases hq : v.l <;> simp [hg, hk, hq, rws, hr, hg, hp1, hp5, hp9]
   rintro k ⟨i, acc⟩ ⟨hi, ha⟩ ih
   simp at hi ha
   simp [hg]
   by_cases h : i < v.l.length
   · have q := ih0 v.l[i] (List.getElem_mem h)
     have hlen : acc.length + (v.l.length - i) = v.l.length := by have := congrArg List.length ha; simpa using this
     have e5 : (acc ++ [v.l[i]]) ++ v.l.drop (i + 1) = v.l := by rw [List.append_assoc, List.singleton_append, ← drop_at h]; exact ha
     have g5 : ∀ acc : List Val, (∀ (r : List PV), r ∈ rws vP acc → r.length = 5) = True := fun acc => eq_true (rws_all _ _ fun _ => by simp [hg])
     have m3 : (acc.length + 1) * 88 ≤ Pm.roomBytes := by unfold Pm.roomBytes; omega
     have m4 : acc.length + 1 ≤ Pm.maxL := by unfold Pm.maxL; omega
     rcases acc with _ | ⟨a0, acc⟩
     · simp at m3 m4 e5
       simp [hg, q, h, m3, m4, hr, hg, hp1, hp5, hp9]
       try simp (disch := omega) only [wrap_id']
       refine (ih.out (i + 1, [v.l[i]]) _ ?_ ?_ ?_).trans ?_
       · simp [hg]; omega
       · exact ⟨by simp [hg]; omega, by simpa using e5⟩
       · simp [hg, rws]
       · rfl
     · simp at m3 m4 e5
       simp [hg, q, h, m3, m4, g5, hr, hg, hp1, hp5, hp9]
       try simp (disch := omega) only [wrap_id']
       refine (ih.out (i + 1, a0 :: (acc ++ [v.l[i]])) _ ?_ ?_ ?_).trans ?_
       · simp [hg]; omega
       · exact ⟨by simp [hg]; omega, by simpa using e5⟩
       · simp [hg, rws]
       · rfl
   · have e : i = v.l.length := by omega
     subst e
     simp at ha
     cases hq : v.l with
     | nil => rw [hq] at ha; subst ha; simp [hg, hq]
     | cons v0 vv => rw [hq] at ha; subst ha; simp [hg, hq]
  | cons k0 kk =>
   have hkk : rws byP (k0 :: kk) = byP k0 :: rws byP kk := rfl
   simp [hg, hk, hkk, hr, hg, hp1, hp5, hp9]
   refine (loop_to (s0 := ?s4) (fun x => v.l.length - x.1) (fun x => [(5, (iv ((x.1 : Nat))))]) (fun x => [(16, .box [(iv v.kind), (iv v.n), .pv b1 (.sl (nums .u8 v.s)), .pv b2 (.sl (byP k0 :: rws byP kk)), .pv b3 (.sl (rws vP v.l))]), (18, .box [(iv 0), (iv 0), .nl, .nl, .nl]), (20, .box [(iv v.kind), (iv v.n), .ref 22 0 v.s.length, .nr 24 [] 0 (kk.length + 1), tnT 26 x.2]), (22, .row .own 5 1 (nums .u8 v.s)), (24, .tree .own (byP k0 :: rws byP kk))] ++ tnH 26 vP x.2) (fun x K => K [(5, (iv v.l.length))] ([(16, .box [(iv v.kind), (iv v.n), .pv b1 (.sl (nums .u8 v.s)), .pv b2 (.sl (byP k0 :: rws byP kk)), .pv b3 (.sl (rws vP v.l))]), (18, .box [(iv 0), (iv 0), .nl, .nl, .nl]), (20, .box [(iv v.kind), (iv v.n), .ref 22 0 v.s.length, .nr 24 [] 0 (kk.length + 1), tnT 26 v.l]), (22, .row .own 5 1 (nums .u8 v.s)), (24, .tree .own (byP k0 :: rws byP kk))] ++ tnH 26 vP v.l)) (fun x => x.1 ≤ v.l.length ∧ x.2 ++ v.l.drop x.1 = v.l) (0, ([] : List Val)) ?hc4 ?h04 ?hs4 ?step4).trans ?r4
   case hc4 => simp; rfl
   case h04 => first | (simp; done) | (simp [*]; done) | exact ⟨by simp, ⟨rfl⟩⟩ | grind | (simp; omega)
   case hs4 => first | (simp; done) | (simp [*]; done)
   case r4 => cases hq : v.l <;> simp [hg, hk, hq, rws, hr, hg, hp1, hp5, hp9]
   rintro k ⟨i, acc⟩ ⟨hi, ha⟩ ih
   simp at hi ha
   simp [hg]
   by_cases h : i < v.l.length
   · have q := ih0 v.l[i] (List.getElem_mem h)
     have hlen : acc.length + (v.l.length - i) = v.l.length := by have := congrArg List.length ha; simpa using this
     have e5 : (acc ++ [v.l[i]]) ++ v.l.drop (i + 1) = v.l := by rw [List.append_assoc, List.singleton_append, ← drop_at h]; exact ha
     have g5 : ∀ acc : List Val, (∀ (r : List PV), r ∈ rws vP acc → r.length = 5) = True := fun acc => eq_true (rws_all _ _ fun _ => by simp [hg])
     have m3 : (acc.length + 1) * 88 ≤ Pm.roomBytes := by unfold Pm.roomBytes; omega
     have m4 : acc.length + 1 ≤ Pm.maxL := by unfold Pm.maxL; omega
     rcases acc with _ | ⟨a0, acc⟩
     · simp at m3 m4 e5
       simp [hg, q, h, m3, m4, hr, hg, hp1, hp5, hp9]
       try simp (disch := omega) only [wrap_id']
       refine (ih.out (i + 1, [v.l[i]]) _ ?_ ?_ ?_).trans ?_
       · simp [hg]; omega
       · exact ⟨by simp [hg]; omega, by simpa using e5⟩
       · simp [hg, rws]
       · rfl
     · simp at m3 m4 e5
       simp [hg, q, h, m3, m4, g5, hr, hg, hp1, hp5, hp9]
       try simp (disch := omega) only [wrap_id']
       refine (ih.out (i + 1, a0 :: (acc ++ [v.l[i]])) _ ?_ ?_ ?_).trans ?_
       · simp [hg]; omega
       · exact ⟨by simp [hg]; omega, by simpa using e5⟩
       · simp [hg, rws]
       · rfl
   · have e : i = v.l.length := by omega
     subst e
     simp at ha
     cases hq : v.l with
     | nil => rw [hq] at ha; subst ha; simp [hg, hq]
     | cons v0 vv => rw [hq] at ha; subst ha; simp [hg, hq]
 rintro k ⟨i, acc⟩ ⟨hi, ha⟩ ih
 simp at hi ha
 simp [hg]
 by_cases h : i < v.k.length
 · have hb : v.k[i].length ≤ 1048576 := hv.here.2.1.2 _ (List.getElem_mem h)
   have g1 : v.k[i].length ≤ Pm.roomBytes := by unfold Pm.roomBytes; omega
   have g2 : v.k[i].length ≤ Pm.maxL := by unfold Pm.maxL; omega
   have g3 : (∀ (r : List PV), r ∈ rws (numP .u8) v.k[i] → r.length = 1) = True := eq_true (rws_all _ _ fun _ => rfl)
   have hlen : acc.length + (v.k.length - i) = v.k.length := by have := congrArg List.length ha; simpa using this
   have e5 : (acc ++ [v.k[i]]) ++ v.k.drop (i + 1) = v.k := by rw [List.append_assoc, List.singleton_append, ← drop_at h]; exact ha
   have g5 : ∀ acc : List (List Int), (∀ (r : List PV), r ∈ rws byP acc → r.length = 1) = True := fun acc => eq_true (rws_all _ _ fun _ => rfl)
   have m3 : (acc.length + 1) * 24 ≤ Pm.roomBytes := by unfold Pm.roomBytes; omega
   have m4 : acc.length + 1 ≤ Pm.maxL := by unfold Pm.maxL; omega
   rcases acc with _ | ⟨a0, acc⟩
   · simp at m3 m4 e5
     simp [hg, g4, g1, g2, g3, h, byP, m3, m4, hr, hg, hp1, hp5, hp9]
     try simp (disch := omega) only [wrap_id']
     refine (ih.out (i + 1, [v.k[i]]) _ ?_ ?_ ?_).trans ?_
     · simp [hg]; omega
     · exact ⟨by simp [hg]; omega, by simpa using e5⟩
     · simp [hg, byP, rws]
     · rfl
   · simp at m3 m4 e5
     simp [hg, g4, g1, g2, g3, h, byP, m3, m4, g5, hr, hg, hp1, hp5, hp9]
     try simp (disch := omega) only [wrap_id']
     refine (ih.out (i + 1, a0 :: (acc ++ [v.k[i]])) _ ?_ ?_ ?_).trans ?_
     · simp [hg]; omega
     · exact ⟨by simp [hg]; omega, by simpa using e5⟩
     · simp [hg, byP, rws]
     · rfl
 · have e : i = v.k.length := by omega
   subst e
   simp at ha
   cases hk : v.k with
   | nil => rw [hk] at ha; subst ha; simp [hg, hk]
   | cons k0 kk => rw [hk] at ha; subst ha; simp [hg, hk]
 ) Tryz.f63 Tryz.results63 gl63)
theorem tOwnV (v : Val) (hv : VLen v) : ∀ (b1 b2 b3 : Bool), phi C3 (lim C3) 63 [.ag [(iv v.kind), (iv v.n), .pv b1 (.sl (nums .u8 v.s)), .pv b2 (.sl (rws byP v.k)), .pv b3 (.sl (rws vP v.l))]] [] = some (.ag (vT 16 v), vO 16 v) := by
 revert hv
 refine Val.ind1 (P := fun v => VLen v → ∀ (b1 b2 b3 : Bool), phi C3 (lim C3) 63 [.ag [(iv v.kind), (iv v.n), .pv b1 (.sl (nums .u8 v.s)), .pv b2 (.sl (rws byP v.k)), .pv b3 (.sl (rws vP v.l))]] [] = some (.ag (vT 16 v), vO 16 v)) (fun v ih hv b1 b2 b3 => ?_) v
 exact t63 v hv b1 b2 b3 fun u hu => ih u hu (hv.sub u hu)
theorem t124 (x : En) (hx : NOk x) (b1 b2 b3 b4 b5 : Bool) : phi C3 (lim C3) 124 [.ag [.pv b1 (.sl (nums .u8 x.addr)), (iv x.val.kind), (iv x.val.n), .pv b2 (.sl (nums .u8 x.val.s)), .pv b3 (.sl (rws byP x.val.k)), .pv b4 (.sl (rws vP x.val.l)), .pv b5 (.sl (rws byP x.deps)), (bv x.taint), (iv x.turned)]] [] = some (.ag (nT 16 x), nO 16 x) := call3 Tryz.func124 (by kernel_rfl) ((show ∀ fn : Func, fn.results = #[.cell 2 162] → lim C3 124 fn [.c (code Tryz.f124)] ⟨_, _⟩ = _ from fun fn hr => by
 have hp1 := plan124_1
 simp [opsOf, code, Tryz.f124] at hp1
 have g1 : x.addr.length ≤ Pm.roomBytes := by have := hx.addr; unfold Pm.roomBytes; omega
 have g2 : x.addr.length ≤ Pm.maxL := by have := hx.addr; unfold Pm.maxL; omega
 have g3 : (∀ (r : List PV), r ∈ rws (numP .u8) x.addr → r.length = 1) = True := eq_true (rws_all _ _ fun _ => rfl)
 have g4 : Spare 0 0 = False := by simp [Spare]
 have q2 := tOwnV x.val hx.vl
 have q3 := fun b => t64 b x.deps hx.dl
 simp [code, Tryz.f124, hr, hp1, q2, q3, g1, g2, g3, g4]
 ) Tryz.f124 Tryz.results124)
theorem t88 (x : Ev) (hx : EOk x) (b1 b2 b3 b4 b5 : Bool) : phi C3 (lim C3) 88 [.ag [(iv x.kind), .pv b1 (.sl (nums .u8 x.addr)), (iv x.act), (iv x.val.kind), (iv x.val.n), .pv b2 (.sl (nums .u8 x.val.s)), .pv b3 (.sl (rws byP x.val.k)), .pv b4 (.sl (rws vP x.val.l)), .pv b5 (.sl (rws byP x.deps))]] [] = some (.ag (eT 16 x), eO 16 x) := call3 Tryz.func88 (by kernel_rfl) ((show ∀ fn : Func, fn.results = #[.cell 2 126] → lim C3 88 fn [.c (code Tryz.f88)] ⟨_, _⟩ = _ from fun fn hr => by
 have hp1 := plan88_1
 simp [opsOf, code, Tryz.f88] at hp1
 have g1 : x.addr.length ≤ Pm.roomBytes := by have := hx.addr; unfold Pm.roomBytes; omega
 have g2 : x.addr.length ≤ Pm.maxL := by have := hx.addr; unfold Pm.maxL; omega
 have g3 : (∀ (r : List PV), r ∈ rws (numP .u8) x.addr → r.length = 1) = True := eq_true (rws_all _ _ fun _ => rfl)
 have g4 : Spare 0 0 = False := by simp [Spare]
 have q2 := tOwnV x.val hx.vl
 have q3 := fun b => t64 b x.deps hx.dl
 simp [code, Tryz.f88, hr, hp1, q2, q3, g1, g2, g3, g4]
 ) Tryz.f88 Tryz.results88)
theorem t86 (s : Sta) (hs : SOk s) (b1 b2 : Bool) : phi C3 (lim C3) 86 [.ag [(iv s.serial), (bv s.opn), .pv b1 (.sl (nums .u8 s.pend)), (iv s.act), .pv b2 (.sl (rws nP s.ents))]] [] = some (.ag (sT 16 s), sO 16 s) := call3 Tryz.func86 (by kernel_rfl) ((show ∀ fn : Func, fn.results = #[.cell 2 48] → globs fn = [0, 1, 4, 20, 3, 2] → lim C3 86 fn [.c (code Tryz.f86)] ⟨_, _⟩ = _ from fun fn hr hg => by
 have hp1 := plan86_1
 simp [opsOf, code, Tryz.f86] at hp1
 have hp5 := plan86_5
 simp [opsOf, code, Tryz.f86] at hp5
 have g1 : s.pend.length ≤ Pm.roomBytes := by have := hs.pend; unfold Pm.roomBytes; omega
 have g2 : s.pend.length ≤ Pm.maxL := by have := hs.pend; unfold Pm.maxL; omega
 have g3 : (∀ (r : List PV), r ∈ rws (numP .u8) s.pend → r.length = 1) = True := eq_true (rws_all _ _ fun _ => rfl)
 have g4 : Spare 0 0 = False := by simp [hg, Spare]
 have h1 : s.ents.length ≤ 1048576 := hs.ents
 simp [code, Tryz.f86, hr, hg, hp1, hp5, g1, g2, g3, g4]
 refine (loop_to (s0 := ?s5) (fun x => s.ents.length - x.1) (fun x => [(4, (iv ((x.1 : Nat))))]) (fun x => [(16, .box [(iv s.serial), (bv s.opn), .pv b1 (.sl (nums .u8 s.pend)), (iv s.act), .pv b2 (.sl (rws nP s.ents))]), (18, .box [(iv 0), (bv false), .nl, (iv 0), .nl]), (20, .box [(iv s.serial), (bv s.opn), .ref 22 0 s.pend.length, (iv s.act), tnT 24 x.2]), (22, .row .own 5 1 (nums .u8 s.pend))] ++ tnH 24 nP x.2) (fun x K => K [(4, (iv s.ents.length))] ([(16, .box [(iv s.serial), (bv s.opn), .pv b1 (.sl (nums .u8 s.pend)), (iv s.act), .pv b2 (.sl (rws nP s.ents))]), (18, .box [(iv 0), (bv false), .nl, (iv 0), .nl]), (20, .box [(iv s.serial), (bv s.opn), .ref 22 0 s.pend.length, (iv s.act), tnT 24 s.ents]), (22, .row .own 5 1 (nums .u8 s.pend))] ++ tnH 24 nP s.ents)) (fun x => x.1 ≤ s.ents.length ∧ x.2 ++ s.ents.drop x.1 = s.ents) (0, ([] : List En)) ?hc5 ?h05 ?hs5 ?step5).trans ?r5
 case hc5 => simp; rfl
 case h05 => first | (simp; done) | (simp [*]; done) | exact ⟨by simp, ⟨rfl⟩⟩ | grind | (simp; omega)
 case hs5 => first | (simp; done) | (simp [*]; done)
 case r5 => cases hq : s.ents <;> simp [hg, hq, rws, hr, hg, hp1, hp5]
 rintro k ⟨i, acc⟩ ⟨hi, hac⟩ ih
 simp at hi hac
 simp [hg]
 by_cases h : i < s.ents.length
 · have q2 := t124 s.ents[i] (hs.all _ (List.getElem_mem h))
   have hlen : acc.length + (s.ents.length - i) = s.ents.length := by have := congrArg List.length hac; simpa using this
   have e5 : (acc ++ [s.ents[i]]) ++ s.ents.drop (i + 1) = s.ents := by rw [List.append_assoc, List.singleton_append, ← drop_at h]; exact hac
   have g5 : ∀ acc : List En, (∀ (r : List PV), r ∈ rws nP acc → r.length = 9) = True := fun acc => eq_true (rws_all _ _ fun _ => by simp [hg])
   have m3 : (acc.length + 1) * 152 ≤ Pm.roomBytes := by unfold Pm.roomBytes; omega
   have m4 : acc.length + 1 ≤ Pm.maxL := by unfold Pm.maxL; omega
   rcases acc with _ | ⟨a0, acc⟩
   · simp at m3 m4 e5
     simp [hg, q2, h, m3, m4, hr, hg, hp1, hp5]
     try simp (disch := omega) only [wrap_id']
     refine (ih.out (i + 1, [s.ents[i]]) _ ?_ ?_ ?_).trans ?_
     · simp [hg]; omega
     · exact ⟨by simp [hg]; omega, by simpa using e5⟩
     · simp [hg, rws]
     · rfl
   · simp at m3 m4 e5
     simp [hg, q2, h, m3, m4, g5, hr, hg, hp1, hp5]
     try simp (disch := omega) only [wrap_id']
     refine (ih.out (i + 1, a0 :: (acc ++ [s.ents[i]])) _ ?_ ?_ ?_).trans ?_
     · simp [hg]; omega
     · exact ⟨by simp [hg]; omega, by simpa using e5⟩
     · simp [hg, rws]
     · rfl
 · have e : i = s.ents.length := by omega
   subst e
   simp at hac
   cases hq : s.ents with
   | nil => rw [hq] at hac; subst hac; simp [hg, hq]
   | cons v0 vv => rw [hq] at hac; subst hac; simp [hg, hq]
 ) Tryz.f86 Tryz.results86 gl86)
theorem t45 (h : His) (ho : HOk h) (b1 b2 b3 : Bool) : phi C3 (lim C3) 45 [.ag [(iv h.base.serial), (bv h.base.opn), .pv b1 (.sl (nums .u8 h.base.pend)), (iv h.base.act), .pv b2 (.sl (rws nP h.base.ents)), .pv b3 (.sl (rws eP h.evs)), (iv h.safe)]] [] = some (.ag (hT 16 h), hO 16 h) := call3 Tryz.func45 (by kernel_rfl) ((show ∀ fn : Func, fn.results = #[.cell 2 51] → globs fn = [0, 1, 4, 15, 3, 2] → lim C3 45 fn [.c (code Tryz.f45)] ⟨_, _⟩ = _ from fun fn hr hg => by
 have hp1 := plan45_1
 simp [opsOf, code, Tryz.f45] at hp1
 have hp5 := plan45_5
 simp [opsOf, code, Tryz.f45] at hp5
 have q1 := t86 h.base ho.base
 have h1 : h.evs.length ≤ 1048576 := ho.evs
 simp [code, Tryz.f45, hr, hg, hp1, hp5, q1]
 refine (loop_to (s0 := ?s6) (fun x => h.evs.length - x.1) (fun x => [(4, (iv ((x.1 : Nat))))]) (fun x => [(16, .box [(iv h.base.serial), (bv h.base.opn), .pv b1 (.sl (nums .u8 h.base.pend)), (iv h.base.act), .pv b2 (.sl (rws nP h.base.ents)), .pv b3 (.sl (rws eP h.evs)), (iv h.safe)]), (18, .box [(iv 0), (bv false), .nl, (iv 0), .nl, .nl, (iv 0)]), (20, .box [(iv h.base.serial), (bv h.base.opn), .nr 22 [] 0 h.base.pend.length, (iv h.base.act), .nr 24 [] 0 h.base.ents.length, tnT 26 x.2, (iv h.safe)]), (22, .tree .own (nums .u8 h.base.pend)), (24, .tree .own (rws nP h.base.ents))] ++ tnH 26 eP x.2) (fun x K => K [(4, (iv h.evs.length))] ([(16, .box [(iv h.base.serial), (bv h.base.opn), .pv b1 (.sl (nums .u8 h.base.pend)), (iv h.base.act), .pv b2 (.sl (rws nP h.base.ents)), .pv b3 (.sl (rws eP h.evs)), (iv h.safe)]), (18, .box [(iv 0), (bv false), .nl, (iv 0), .nl, .nl, (iv 0)]), (20, .box [(iv h.base.serial), (bv h.base.opn), .nr 22 [] 0 h.base.pend.length, (iv h.base.act), .nr 24 [] 0 h.base.ents.length, tnT 26 h.evs, (iv h.safe)]), (22, .tree .own (nums .u8 h.base.pend)), (24, .tree .own (rws nP h.base.ents))] ++ tnH 26 eP h.evs)) (fun x => x.1 ≤ h.evs.length ∧ x.2 ++ h.evs.drop x.1 = h.evs) (0, ([] : List Ev)) ?hc6 ?h06 ?hs6 ?step6).trans ?r6
 case hc6 => simp; rfl
 case h06 => first | (simp; done) | (simp [*]; done) | exact ⟨by simp, ⟨rfl⟩⟩ | grind | (simp; omega)
 case hs6 => first | (simp; done) | (simp [*]; done)
 case r6 => cases hq : h.evs <;> simp [hg, hq, rws, hr, hg, hp1, hp5]
 rintro k ⟨i, acc⟩ ⟨hi, hac⟩ ih
 simp at hi hac
 simp [hg]
 by_cases hlt : i < h.evs.length
 · have q2 := t88 h.evs[i] (ho.all _ (List.getElem_mem hlt))
   have hlen : acc.length + (h.evs.length - i) = h.evs.length := by have := congrArg List.length hac; simpa using this
   have e5 : (acc ++ [h.evs[i]]) ++ h.evs.drop (i + 1) = h.evs := by rw [List.append_assoc, List.singleton_append, ← drop_at hlt]; exact hac
   have g5 : ∀ acc : List Ev, (∀ (r : List PV), r ∈ rws eP acc → r.length = 9) = True := fun acc => eq_true (rws_all _ _ fun _ => by simp [hg])
   have m3 : (acc.length + 1) * 152 ≤ Pm.roomBytes := by unfold Pm.roomBytes; omega
   have m4 : acc.length + 1 ≤ Pm.maxL := by unfold Pm.maxL; omega
   rcases acc with _ | ⟨a0, acc⟩
   · simp at m3 m4 e5
     simp [hg, q2, hlt, m3, m4, hr, hg, hp1, hp5]
     try simp (disch := omega) only [wrap_id']
     refine (ih.out (i + 1, [h.evs[i]]) _ ?_ ?_ ?_).trans ?_
     · simp [hg]; omega
     · exact ⟨by simp [hg]; omega, by simpa using e5⟩
     · simp [hg, rws]
     · rfl
   · simp at m3 m4 e5
     simp [hg, q2, hlt, m3, m4, g5, hr, hg, hp1, hp5]
     try simp (disch := omega) only [wrap_id']
     refine (ih.out (i + 1, a0 :: (acc ++ [h.evs[i]])) _ ?_ ?_ ?_).trans ?_
     · simp [hg]; omega
     · exact ⟨by simp [hg]; omega, by simpa using e5⟩
     · simp [hg, rws]
     · rfl
 · have e : i = h.evs.length := by omega
   subst e
   simp at hac
   cases hq : h.evs with
   | nil => rw [hq] at hac; subst hac; simp [hg, hq]
   | cons v0 vv => rw [hq] at hac; subst hac; simp [hg, hq]
 ) Tryz.f45 Tryz.results45 gl45)
end Go.Proofs.YtgbfmdihmnpcdaaGreatDoor
