/- Copies of states, by the reference, as data. -/
import Derived.Test.YtgbfmdihmnpcdaaGreatDoorRW6
namespace Go.Proofs.YtgbfmdihmnpcdaaGreatDoor
open Go Go.Pm Go.Proofs
set_option linter.unusedVariables false
set_option linter.unusedSimpArgs false
set_option maxRecDepth 100000
set_option maxHeartbeats 4000000
theorem p64 (b : Bool) (l : List (List Int)) (hl : lenBB l) : phi C0 (lim C0) 64 [.pv b (.sl (rws byP l))] [] = some (.pv false (.sl (rws byP l)), []) := call0 Tryz.func64 (by kernel_rfl) ((show ∀ fn : Func, fn.results = #[.tmp 2] → globs fn = [0, 4, 8, 3, 2] → lim C0 64 fn [.c (code Tryz.f64)] ⟨_, _⟩ = _ from fun fn hr hg => by
 have h1 : l.length ≤ 1048576 := hl.1
 simp [code, Tryz.f64, hr, hg]
 refine (loop_to (s0 := ?s1) (fun x => l.length - x.1) (fun x => [(3, slT 16 x.2), (4, (iv ((x.1 : Nat))))]) (fun x => slH 16 25 1 byP x.2) (fun x K => K [(3, slT 16 l), (4, (iv l.length))] (slH 16 25 1 byP l)) (fun x => x.1 ≤ l.length ∧ x.2 ++ l.drop x.1 = l) (0, ([] : List (List Int))) ?hc1 ?h01 ?hs1 ?step1).trans ?r1
 case hc1 => simp; rfl
 case h01 => first | (simp; done) | (simp [*]; done) | exact ⟨by simp, ⟨rfl⟩⟩ | grind | (simp; omega)
 case hs1 => first | (simp; done) | (simp [*]; done)
 case r1 => cases l <;> simp [hg, rws, hr, hg] <;> exact List.take_of_length_le (by simp [hg])
 rintro k ⟨i, acc⟩ ⟨hi, ha⟩ ih
 simp at hi ha
 simp [hg]
 have q1 : Spare 0 0 = False := by simp [hg, Spare]
 by_cases h : i < l.length
 · have hb : l[i].length ≤ 1048576 := hl.2 _ (List.getElem_mem h)
   have g1 : l[i].length ≤ Pm.roomBytes := by unfold Pm.roomBytes; omega
   have g2 : l[i].length ≤ Pm.maxL := by unfold Pm.maxL; omega
   have g3 : (∀ (r : List PV), r ∈ rws (numP .u8) l[i] → r.length = 1) = True := eq_true (rws_all _ _ fun _ => rfl)
   have hlen : acc.length + (l.length - i) = l.length := by have := congrArg List.length ha; simpa using this
   have e5 : (acc ++ [l[i]]) ++ l.drop (i + 1) = l := by rw [List.append_assoc, List.singleton_append, ← drop_at h]; exact ha
   have g4 : ∀ acc : List (List Int), (∀ (r : List PV), r ∈ rws byP acc → r.length = 1) = True := fun acc => eq_true (rws_all _ _ fun _ => rfl)
   have m3 : (acc.length + 1) * 24 ≤ Pm.roomBytes := by unfold Pm.roomBytes; omega
   have g6 : ∀ n : Nat, Spare n n = False := fun n => by simp [hg, Spare]
   have m4 : acc.length + 1 ≤ Pm.maxL := by unfold Pm.maxL; omega
   rcases acc with _ | ⟨a0, acc⟩
   · simp at m3 m4 e5
     simp [hg, q1, g1, g2, g3, h, byP, m3, m4, hr, hg]
     try simp (disch := omega) only [wrap_id']
     refine (ih.out (i + 1, [l[i]]) _ ?_ ?_ ?_).trans ?_
     · simp [hg]; omega
     · exact ⟨by simp [hg]; omega, by simpa using e5⟩
     · simp [hg, byP, rws]
     · rfl
   · simp at m3 m4 e5
     simp [hg, q1, g1, g2, g3, h, byP, m3, m4, g4, g6, hr, hg]
     try simp (disch := omega) only [wrap_id']
     refine (ih.out (i + 1, a0 :: (acc ++ [l[i]])) _ ?_ ?_ ?_).trans ?_
     · simp [hg]; omega
     · exact ⟨by simp [hg]; omega, by simpa using e5⟩
     · simp [hg, byP, rws]
     · rfl
 · have e : i = l.length := by omega
   subst e
   simp at ha
   subst ha
   cases acc <;> simp [hg]
 ) Tryz.f64 Tryz.results64 gl64)
theorem p63 (v : Val) (hv : VLen v) (b1 b2 b3 : Bool) (ih0 : ∀ u ∈ v.l, ∀ b1 b2 b3 : Bool, phi C0 (lim C0) 63 [.ag [(iv u.kind), (iv u.n), .pv b1 (.sl (nums .u8 u.s)), .pv b2 (.sl (rws byP u.k)), .pv b3 (.sl (rws vP u.l))]] [] = some (.ag [(iv u.kind), (iv u.n), .pv false (.sl (nums .u8 u.s)), .pv false (.sl (rws byP u.k)), .pv false (.sl (rws vP u.l))], [])) : phi C0 (lim C0) 63 [.ag [(iv v.kind), (iv v.n), .pv b1 (.sl (nums .u8 v.s)), .pv b2 (.sl (rws byP v.k)), .pv b3 (.sl (rws vP v.l))]] [] = some (.ag [(iv v.kind), (iv v.n), .pv false (.sl (nums .u8 v.s)), .pv false (.sl (rws byP v.k)), .pv false (.sl (rws vP v.l))], []) := call0 Tryz.func63 (by kernel_rfl) ((show ∀ fn : Func, fn.results = #[.cell 2 67] → globs fn = [0, 1, 4, 19, 3, 5, 38, 2] → lim C0 63 fn [.c (code Tryz.f63)] ⟨_, _⟩ = _ from fun fn hr hg => by
 have hp1 := plan63_1
 simp [opsOf, code, Tryz.f63] at hp1
 have hp5 := plan63_5
 simp [opsOf, code, Tryz.f63] at hp5
 have hp9 := plan63_9
 simp [opsOf, code, Tryz.f63] at hp9
 have h1 : v.l.length ≤ 1048576 := hv.here.2.2
 have g1 : v.s.length ≤ Pm.roomBytes := by have := hv.here.1; unfold lenB at this; unfold Pm.roomBytes; omega
 have g2 : v.s.length ≤ Pm.maxL := by have := hv.here.1; unfold lenB at this; unfold Pm.maxL; omega
 have g3 : (∀ (r : List PV), r ∈ rws (numP .u8) v.s → r.length = 1) = True := eq_true (rws_all _ _ fun _ => rfl)
 have g4 : Spare 0 0 = False := by simp [hg, Spare]
 simp [code, Tryz.f63, hr, hg, hp1, hp5, hp9, g1, g2, g3, g4]
 have k1 : v.k.length ≤ 1048576 := hv.here.2.1.1
 refine (loop_to (s0 := ?s2) (fun x => v.k.length - x.1) (fun x => [(4, (iv ((x.1 : Nat))))]) (fun x => [(16, .box [(iv v.kind), (iv v.n), .pv b1 (.sl (nums .u8 v.s)), .pv b2 (.sl (rws byP v.k)), .pv b3 (.sl (rws vP v.l))]), (18, .box [(iv 0), (iv 0), .nl, .nl, .nl]), (20, .box [(iv v.kind), (iv v.n), .ref 22 0 v.s.length, slT 24 x.2, .nl]), (22, .row .own 5 1 (nums .u8 v.s))] ++ slH 24 25 1 byP x.2) (fun x K => K [(4, (iv v.k.length))] ([(16, .box [(iv v.kind), (iv v.n), .pv b1 (.sl (nums .u8 v.s)), .pv b2 (.sl (rws byP v.k)), .pv b3 (.sl (rws vP v.l))]), (18, .box [(iv 0), (iv 0), .nl, .nl, .nl]), (20, .box [(iv v.kind), (iv v.n), .ref 22 0 v.s.length, slT 24 v.k, .nl]), (22, .row .own 5 1 (nums .u8 v.s))] ++ slH 24 25 1 byP v.k)) (fun x => x.1 ≤ v.k.length ∧ x.2 ++ v.k.drop x.1 = v.k) (0, ([] : List (List Int))) ?hc2 ?h02 ?hs2 ?step2).trans ?r2
 case hc2 => simp; rfl
 case h02 => first | (simp; done) | (simp [*]; done) | exact ⟨by simp, ⟨rfl⟩⟩ | grind | (simp; omega)
 case hs2 => first | (simp; done) | (simp [*]; done)
 case r2 =>
  cases hk : v.k with
  | nil =>
   simp [hg, hk, hr, hg, hp1, hp5, hp9]
   refine (loop_to (s0 := ?s3) (fun x => v.l.length - x.1) (fun x => [(5, (iv ((x.1 : Nat))))]) (fun x => [(16, .box [(iv v.kind), (iv v.n), .pv b1 (.sl (nums .u8 v.s)), .pv b2 (.sl []), .pv b3 (.sl (rws vP v.l))]), (18, .box [(iv 0), (iv 0), .nl, .nl, .nl]), (20, .box [(iv v.kind), (iv v.n), .ref 22 0 v.s.length, .nl, slT 24 x.2]), (22, .row .own 5 1 (nums .u8 v.s))] ++ slH 24 67 5 vP x.2) (fun x K => K [(5, (iv v.l.length))] ([(16, .box [(iv v.kind), (iv v.n), .pv b1 (.sl (nums .u8 v.s)), .pv b2 (.sl []), .pv b3 (.sl (rws vP v.l))]), (18, .box [(iv 0), (iv 0), .nl, .nl, .nl]), (20, .box [(iv v.kind), (iv v.n), .ref 22 0 v.s.length, .nl, slT 24 v.l]), (22, .row .own 5 1 (nums .u8 v.s))] ++ slH 24 67 5 vP v.l)) (fun x => x.1 ≤ v.l.length ∧ x.2 ++ v.l.drop x.1 = v.l) (0, ([] : List Val)) ?hc3 ?h03 ?hs3 ?step3).trans ?r3
   case hc3 => simp; rfl
   case h03 => first | (simp; done) | (simp [*]; done) | exact ⟨by simp, ⟨rfl⟩⟩ | grind | (simp; omega)
   case hs3 => first | (simp; done) | (simp [*]; done)
   case r3 => cases hq : v.l <;> simp [hg, hk, hq, rws, hr, hg, hp1, hp5, hp9] <;> (repeat rw [List.take_of_length_le (by simp [hg])]) <;> first | done | trivial | simp [hg]
   rintro k ⟨i, acc⟩ ⟨hi, ha⟩ ih
   simp at hi ha
   simp [hg]
   by_cases h : i < v.l.length
   · have q := ih0 v.l[i] (List.getElem_mem h)
     have hlen : acc.length + (v.l.length - i) = v.l.length := by have := congrArg List.length ha; simpa using this
     have e5 : (acc ++ [v.l[i]]) ++ v.l.drop (i + 1) = v.l := by rw [List.append_assoc, List.singleton_append, ← drop_at h]; exact ha
     have g5 : ∀ acc : List Val, (∀ (r : List PV), r ∈ rws vP acc → r.length = 5) = True := fun acc => eq_true (rws_all _ _ fun _ => by simp [hg])
     have m3 : (acc.length + 1) * 88 ≤ Pm.roomBytes := by unfold Pm.roomBytes; omega
     have g6 : ∀ n : Nat, Spare n n = False := fun n => by simp [hg, Spare]
     have m4 : acc.length + 1 ≤ Pm.maxL := by unfold Pm.maxL; omega
     rcases acc with _ | ⟨a0, acc⟩
     · simp at m3 m4 e5
       simp [hg, q, h, m3, m4, hr, hg, hp1, hp5, hp9]
       try simp (disch := omega) only [wrap_id']
       refine (ih.out (i + 1, [v.l[i]]) _ ?_ ?_ ?_).trans ?_
       · simp [hg]; omega
       · exact ⟨by simp [hg]; omega, by simpa using e5⟩
       · simp [hg, rws]
       · rfl
     · simp at m3 m4 e5
       simp [hg, q, h, m3, m4, g5, g6, hr, hg, hp1, hp5, hp9]
       try simp (disch := omega) only [wrap_id']
       refine (ih.out (i + 1, a0 :: (acc ++ [v.l[i]])) _ ?_ ?_ ?_).trans ?_
       · simp [hg]; omega
       · exact ⟨by simp [hg]; omega, by simpa using e5⟩
       · simp [hg, rws]
       · rfl
   · have e : i = v.l.length := by omega
     subst e
     simp at ha
     cases hq : v.l with
     | nil => rw [hq] at ha; subst ha; simp [hg, hq]
     | cons v0 vv => rw [hq] at ha; subst ha; simp [hg, hq]
  | cons k0 kk =>
   have hkk : rws byP (k0 :: kk) = byP k0 :: rws byP kk := rfl
   simp [hg, hk, hkk, hr, hg, hp1, hp5, hp9]
   refine (loop_to (s0 := ?s4) (fun x => v.l.length - x.1) (fun x => [(5, (iv ((x.1 : Nat))))]) (fun x => [(16, .box [(iv v.kind), (iv v.n), .pv b1 (.sl (nums .u8 v.s)), .pv b2 (.sl (byP k0 :: rws byP kk)), .pv b3 (.sl (rws vP v.l))]), (18, .box [(iv 0), (iv 0), .nl, .nl, .nl]), (20, .box [(iv v.kind), (iv v.n), .ref 22 0 v.s.length, .ref 24 0 (kk.length + 1), slT 26 x.2]), (22, .row .own 5 1 (nums .u8 v.s)), (24, .row .own 25 1 (byP k0 :: rws byP kk))] ++ slH 26 67 5 vP x.2) (fun x K => K [(5, (iv v.l.length))] ([(16, .box [(iv v.kind), (iv v.n), .pv b1 (.sl (nums .u8 v.s)), .pv b2 (.sl (byP k0 :: rws byP kk)), .pv b3 (.sl (rws vP v.l))]), (18, .box [(iv 0), (iv 0), .nl, .nl, .nl]), (20, .box [(iv v.kind), (iv v.n), .ref 22 0 v.s.length, .ref 24 0 (kk.length + 1), slT 26 v.l]), (22, .row .own 5 1 (nums .u8 v.s)), (24, .row .own 25 1 (byP k0 :: rws byP kk))] ++ slH 26 67 5 vP v.l)) (fun x => x.1 ≤ v.l.length ∧ x.2 ++ v.l.drop x.1 = v.l) (0, ([] : List Val)) ?hc4 ?h04 ?hs4 ?step4).trans ?r4
   case hc4 => simp; rfl
   case h04 => first | (simp; done) | (simp [*]; done) | exact ⟨by simp, ⟨rfl⟩⟩ | grind | (simp; omega)
   case hs4 => first | (simp; done) | (simp [*]; done)
   case r4 => cases hq : v.l <;> simp [hg, hk, hq, rws, hr, hg, hp1, hp5, hp9] <;> (repeat rw [List.take_of_length_le (by simp [hg])]) <;> first | done | trivial | simp [hg]
   rintro k ⟨i, acc⟩ ⟨hi, ha⟩ ih
   simp at hi ha
   simp [hg]
   by_cases h : i < v.l.length
   · have q := ih0 v.l[i] (List.getElem_mem h)
     have hlen : acc.length + (v.l.length - i) = v.l.length := by have := congrArg List.length ha; simpa using this
     have e5 : (acc ++ [v.l[i]]) ++ v.l.drop (i + 1) = v.l := by rw [List.append_assoc, List.singleton_append, ← drop_at h]; exact ha
     have g5 : ∀ acc : List Val, (∀ (r : List PV), r ∈ rws vP acc → r.length = 5) = True := fun acc => eq_true (rws_all _ _ fun _ => by simp [hg])
     have m3 : (acc.length + 1) * 88 ≤ Pm.roomBytes := by unfold Pm.roomBytes; omega
     have g6 : ∀ n : Nat, Spare n n = False := fun n => by simp [hg, Spare]
     have m4 : acc.length + 1 ≤ Pm.maxL := by unfold Pm.maxL; omega
     rcases acc with _ | ⟨a0, acc⟩
     · simp at m3 m4 e5
       simp [hg, q, h, m3, m4, hr, hg, hp1, hp5, hp9]
       try simp (disch := omega) only [wrap_id']
       refine (ih.out (i + 1, [v.l[i]]) _ ?_ ?_ ?_).trans ?_
       · simp [hg]; omega
       · exact ⟨by simp [hg]; omega, by simpa using e5⟩
       · simp [hg, rws]
       · rfl
     · simp at m3 m4 e5
       simp [hg, q, h, m3, m4, g5, g6, hr, hg, hp1, hp5, hp9]
       try simp (disch := omega) only [wrap_id']
       refine (ih.out (i + 1, a0 :: (acc ++ [v.l[i]])) _ ?_ ?_ ?_).trans ?_
       · simp [hg]; omega
       · exact ⟨by simp [hg]; omega, by simpa using e5⟩
       · simp [hg, rws]
       · rfl
   · have e : i = v.l.length := by omega
     subst e
     simp at ha
     cases hq : v.l with
     | nil => rw [hq] at ha; subst ha; simp [hg, hq]
     | cons v0 vv => rw [hq] at ha; subst ha; simp [hg, hq]
 rintro k ⟨i, acc⟩ ⟨hi, ha⟩ ih
 simp at hi ha
 simp [hg]
 by_cases h : i < v.k.length
 · have hb : v.k[i].length ≤ 1048576 := hv.here.2.1.2 _ (List.getElem_mem h)
   have g1 : v.k[i].length ≤ Pm.roomBytes := by unfold Pm.roomBytes; omega
   have g2 : v.k[i].length ≤ Pm.maxL := by unfold Pm.maxL; omega
   have g3 : (∀ (r : List PV), r ∈ rws (numP .u8) v.k[i] → r.length = 1) = True := eq_true (rws_all _ _ fun _ => rfl)
   have hlen : acc.length + (v.k.length - i) = v.k.length := by have := congrArg List.length ha; simpa using this
   have e5 : (acc ++ [v.k[i]]) ++ v.k.drop (i + 1) = v.k := by rw [List.append_assoc, List.singleton_append, ← drop_at h]; exact ha
   have g5 : ∀ acc : List (List Int), (∀ (r : List PV), r ∈ rws byP acc → r.length = 1) = True := fun acc => eq_true (rws_all _ _ fun _ => rfl)
   have m3 : (acc.length + 1) * 24 ≤ Pm.roomBytes := by unfold Pm.roomBytes; omega
   have g6 : ∀ n : Nat, Spare n n = False := fun n => by simp [hg, Spare]
   have m4 : acc.length + 1 ≤ Pm.maxL := by unfold Pm.maxL; omega
   rcases acc with _ | ⟨a0, acc⟩
   · simp at m3 m4 e5
     simp [hg, g4, g1, g2, g3, h, byP, m3, m4, hr, hg, hp1, hp5, hp9]
     try simp (disch := omega) only [wrap_id']
     refine (ih.out (i + 1, [v.k[i]]) _ ?_ ?_ ?_).trans ?_
     · simp [hg]; omega
     · exact ⟨by simp [hg]; omega, by simpa using e5⟩
     · simp [hg, byP, rws]
     · rfl
   · simp at m3 m4 e5
     simp [hg, g4, g1, g2, g3, h, byP, m3, m4, g5, g6, hr, hg, hp1, hp5, hp9]
     try simp (disch := omega) only [wrap_id']
     refine (ih.out (i + 1, a0 :: (acc ++ [v.k[i]])) _ ?_ ?_ ?_).trans ?_
     · simp [hg]; omega
     · exact ⟨by simp [hg]; omega, by simpa using e5⟩
     · simp [hg, byP, rws]
     · rfl
 · have e : i = v.k.length := by omega
   subst e
   simp at ha
   cases hk : v.k with
   | nil => rw [hk] at ha; subst ha; simp [hg, hk]
   | cons k0 kk => rw [hk] at ha; subst ha; simp [hg, hk]
 ) Tryz.f63 Tryz.results63 gl63)
theorem pOwnV (v : Val) (hv : VLen v) : ∀ (b1 b2 b3 : Bool), phi C0 (lim C0) 63 [.ag [(iv v.kind), (iv v.n), .pv b1 (.sl (nums .u8 v.s)), .pv b2 (.sl (rws byP v.k)), .pv b3 (.sl (rws vP v.l))]] [] = some (.ag [(iv v.kind), (iv v.n), .pv false (.sl (nums .u8 v.s)), .pv false (.sl (rws byP v.k)), .pv false (.sl (rws vP v.l))], []) := by
 revert hv
 refine Val.ind1 (P := fun v => VLen v → ∀ (b1 b2 b3 : Bool), phi C0 (lim C0) 63 [.ag [(iv v.kind), (iv v.n), .pv b1 (.sl (nums .u8 v.s)), .pv b2 (.sl (rws byP v.k)), .pv b3 (.sl (rws vP v.l))]] [] = some (.ag [(iv v.kind), (iv v.n), .pv false (.sl (nums .u8 v.s)), .pv false (.sl (rws byP v.k)), .pv false (.sl (rws vP v.l))], [])) (fun v ih hv b1 b2 b3 => ?_) v
 exact p63 v hv b1 b2 b3 fun u hu => ih u hu (hv.sub u hu)
theorem p124 (x : En) (hx : NOk x) (b1 b2 b3 b4 b5 : Bool) : phi C0 (lim C0) 124 [.ag [.pv b1 (.sl (nums .u8 x.addr)), (iv x.val.kind), (iv x.val.n), .pv b2 (.sl (nums .u8 x.val.s)), .pv b3 (.sl (rws byP x.val.k)), .pv b4 (.sl (rws vP x.val.l)), .pv b5 (.sl (rws byP x.deps)), (bv x.taint), (iv x.turned)]] [] = some (.ag [.pv false (.sl (nums .u8 x.addr)), (iv x.val.kind), (iv x.val.n), .pv false (.sl (nums .u8 x.val.s)), .pv false (.sl (rws byP x.val.k)), .pv false (.sl (rws vP x.val.l)), .pv false (.sl (rws byP x.deps)), (bv x.taint), (iv x.turned)], []) := call0 Tryz.func124 (by kernel_rfl) ((show ∀ fn : Func, fn.results = #[.cell 2 162] → lim C0 124 fn [.c (code Tryz.f124)] ⟨_, _⟩ = _ from fun fn hr => by
 have hp1 := plan124_1
 simp [opsOf, code, Tryz.f124] at hp1
 have g1 : x.addr.length ≤ Pm.roomBytes := by have := hx.addr; unfold Pm.roomBytes; omega
 have g2 : x.addr.length ≤ Pm.maxL := by have := hx.addr; unfold Pm.maxL; omega
 have g3 : (∀ (r : List PV), r ∈ rws (numP .u8) x.addr → r.length = 1) = True := eq_true (rws_all _ _ fun _ => rfl)
 have g4 : Spare 0 0 = False := by simp [Spare]
 have q2 := pOwnV x.val hx.vl
 have q3 := fun b => p64 b x.deps hx.dl
 simp [code, Tryz.f124, hr, hp1, q2, q3, g1, g2, g3, g4]
 ) Tryz.f124 Tryz.results124)
theorem p86 (s : Sta) (hs : SOk s) (b1 b2 : Bool) : phi C0 (lim C0) 86 [.ag [(iv s.serial), (bv s.opn), .pv b1 (.sl (nums .u8 s.pend)), (iv s.act), .pv b2 (.sl (rws nP s.ents))]] [] = some (.ag [(iv s.serial), (bv s.opn), .pv false (.sl (nums .u8 s.pend)), (iv s.act), .pv false (.sl (rws nP s.ents))], []) := call0 Tryz.func86 (by kernel_rfl) ((show ∀ fn : Func, fn.results = #[.cell 2 48] → globs fn = [0, 1, 4, 20, 3, 2] → lim C0 86 fn [.c (code Tryz.f86)] ⟨_, _⟩ = _ from fun fn hr hg => by
 have hp1 := plan86_1
 simp [opsOf, code, Tryz.f86] at hp1
 have hp5 := plan86_5
 simp [opsOf, code, Tryz.f86] at hp5
 have g1 : s.pend.length ≤ Pm.roomBytes := by have := hs.pend; unfold Pm.roomBytes; omega
 have g2 : s.pend.length ≤ Pm.maxL := by have := hs.pend; unfold Pm.maxL; omega
 have g3 : (∀ (r : List PV), r ∈ rws (numP .u8) s.pend → r.length = 1) = True := eq_true (rws_all _ _ fun _ => rfl)
 have g4 : Spare 0 0 = False := by simp [hg, Spare]
 have h1 : s.ents.length ≤ 1048576 := hs.ents
 simp [code, Tryz.f86, hr, hg, hp1, hp5, g1, g2, g3, g4]
 refine (loop_to (s0 := ?s5) (fun x => s.ents.length - x.1) (fun x => [(4, (iv ((x.1 : Nat))))]) (fun x => [(16, .box [(iv s.serial), (bv s.opn), .pv b1 (.sl (nums .u8 s.pend)), (iv s.act), .pv b2 (.sl (rws nP s.ents))]), (18, .box [(iv 0), (bv false), .nl, (iv 0), .nl]), (20, .box [(iv s.serial), (bv s.opn), .ref 22 0 s.pend.length, (iv s.act), slT 24 x.2]), (22, .row .own 5 1 (nums .u8 s.pend))] ++ slH 24 162 9 nP x.2) (fun x K => K [(4, (iv s.ents.length))] ([(16, .box [(iv s.serial), (bv s.opn), .pv b1 (.sl (nums .u8 s.pend)), (iv s.act), .pv b2 (.sl (rws nP s.ents))]), (18, .box [(iv 0), (bv false), .nl, (iv 0), .nl]), (20, .box [(iv s.serial), (bv s.opn), .ref 22 0 s.pend.length, (iv s.act), slT 24 s.ents]), (22, .row .own 5 1 (nums .u8 s.pend))] ++ slH 24 162 9 nP s.ents)) (fun x => x.1 ≤ s.ents.length ∧ x.2 ++ s.ents.drop x.1 = s.ents) (0, ([] : List En)) ?hc5 ?h05 ?hs5 ?step5).trans ?r5
 case hc5 => simp; rfl
 case h05 => first | (simp; done) | (simp [*]; done) | exact ⟨by simp, ⟨rfl⟩⟩ | grind | (simp; omega)
 case hs5 => first | (simp; done) | (simp [*]; done)
 case r5 =>
  cases hq : s.ents <;> simp [hg, hq, rws, hr, hg, hp1, hp5] <;> (repeat rw [List.take_of_length_le (by simp [hg])]) <;> first | done | trivial | simp [hg]
 rintro k ⟨i, acc⟩ ⟨hi, hac⟩ ih
 simp at hi hac
 simp [hg]
 by_cases h : i < s.ents.length
 · have q2 := p124 s.ents[i] (hs.all _ (List.getElem_mem h))
   have hlen : acc.length + (s.ents.length - i) = s.ents.length := by have := congrArg List.length hac; simpa using this
   have e5 : (acc ++ [s.ents[i]]) ++ s.ents.drop (i + 1) = s.ents := by rw [List.append_assoc, List.singleton_append, ← drop_at h]; exact hac
   have g5 : ∀ acc : List En, (∀ (r : List PV), r ∈ rws nP acc → r.length = 9) = True := fun acc => eq_true (rws_all _ _ fun _ => by simp [hg])
   have g6 : ∀ n : Nat, Spare n n = False := fun n => by simp [hg, Spare]
   have m3 : (acc.length + 1) * 152 ≤ Pm.roomBytes := by unfold Pm.roomBytes; omega
   have m4 : acc.length + 1 ≤ Pm.maxL := by unfold Pm.maxL; omega
   rcases acc with _ | ⟨a0, acc⟩
   · simp at m3 m4 e5
     simp [hg, q2, h, m3, m4, hr, hg, hp1, hp5]
     try simp (disch := omega) only [wrap_id']
     refine (ih.out (i + 1, [s.ents[i]]) _ ?_ ?_ ?_).trans ?_
     · simp [hg]; omega
     · exact ⟨by simp [hg]; omega, by simpa using e5⟩
     · simp [hg, rws]
     · rfl
   · simp at m3 m4 e5
     simp [hg, q2, h, m3, m4, g5, g6, hr, hg, hp1, hp5]
     try simp (disch := omega) only [wrap_id']
     refine (ih.out (i + 1, a0 :: (acc ++ [s.ents[i]])) _ ?_ ?_ ?_).trans ?_
     · simp [hg]; omega
     · exact ⟨by simp [hg]; omega, by simpa using e5⟩
     · simp [hg, rws]
     · rfl
 · have e : i = s.ents.length := by omega
   subst e
   simp at hac
   cases hq : s.ents with
   | nil => rw [hq] at hac; subst hac; simp [hg, hq]
   | cons v0 vv => rw [hq] at hac; subst hac; simp [hg, hq]
 ) Tryz.f86 Tryz.results86 gl86)
end Go.Proofs.YtgbfmdihmnpcdaaGreatDoor
