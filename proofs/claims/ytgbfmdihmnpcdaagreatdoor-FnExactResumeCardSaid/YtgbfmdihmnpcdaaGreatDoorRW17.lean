/- Copies, by the program. -/
import Derived.Test.YtgbfmdihmnpcdaaGreatDoorV1
namespace Go.Proofs.YtgbfmdihmnpcdaaGreatDoor
open Go Go.Pm Go.Proofs
set_option linter.unusedVariables false
set_option linter.unusedSimpArgs false
set_option maxRecDepth 100000
set_option maxHeartbeats 4000000
theorem p34 (b : Bool) (s : List Int) (hs : s.length ≤ 1048576) : phi C0 (lim C0) 34 [.pv b (.sl (nums .u8 s))] [] = some (.pv false (.sl (nums .u8 s)), []) := call0 Tryz.func34 (by kernel_rfl) ((show ∀ fn : Func, fn.results = #[.tmp 2] → lim C0 34 fn [.c (code Tryz.f34)] ⟨_, _⟩ = _ from fun fn hr => by
 have g1 : s.length ≤ Pm.roomBytes := by unfold Pm.roomBytes; omega
 have g2 : s.length ≤ Pm.maxL := by unfold Pm.maxL; omega
 have g3 : (∀ (r : List PV), r ∈ rws (numP .u8) s → r.length = 1) = True := eq_true (rws_all _ _ fun _ => rfl)
 have g4 : Spare 0 0 = False := by simp [Spare]
 simp [code, Tryz.f34, hr, g1, g2, g3, g4]
 ) Tryz.f34 Tryz.results34)
theorem p36 (b : Bool) (l : List (List Int)) (hl : lenBB l) : phi C0 (lim C0) 36 [.pv b (.sl (rws byP l))] [] = some (.pv false (.sl (rws byP l)), []) := call0 Tryz.func36 (by kernel_rfl) ((show ∀ fn : Func, fn.results = #[.tmp 2] → globs fn = [0, 9, 8, 10, 7, 5, 3, 2] → lim C0 36 fn [.c (code Tryz.f36)] ⟨_, _⟩ = _ from fun fn hr hg => by
 have h1 : l.length ≤ 1048576 := hl.1
 simp [code, Tryz.f36, hr, hg]
 refine (loop_to (s0 := ?s1) (fun i => l.length - i) (fun i => [(3, .ref 16 0 i), (9, (iv ((i : Nat))))]) (fun i => [(16, .row .own 25 1 (rws byP (l.take i)))]) (fun i K => K [(3, .ref 16 0 l.length), (9, (iv l.length))] [(16, .row .own 25 1 (rws byP l))]) (fun i => i ≤ l.length) 0 ?hc1 ?h01 ?hs1 ?step1).trans ?r1
 case hc1 => simp; rfl
 case h01 => first | (simp; done) | (simp [*]; done) | exact ⟨by simp, ⟨rfl⟩⟩ | grind | (simp; omega)
 case hs1 => first | (simp; done) | (simp [*]; done)
 case r1 => simp [hg, hr]
 intro k i hi ih
 simp [hg]
 (first | refine ifL_cases (fun h => ?_) (fun h => ?_) | refine gI_cases' (fun h => ?_) (fun h => ?_) | refine gI_cases (fun h => ?_) (fun h => ?_) | refine dI_cases' (fun h => ?_) (fun h => ?_) | refine dI_cases (fun h => ?_) (fun h => ?_)) <;> first | replace h := of_decide_eq_true h | replace h := of_decide_eq_false h | skip
 · have q := fun b => p34 b l[i] (hl.2 _ (List.getElem_mem h))
   have e2 := take_at h
   have m1 : min i l.length = i := by omega
   have m2 : Spare i i = False := by simp [hg, Spare]
   have m3 : (i + 1) * 24 ≤ Pm.roomBytes := by unfold Pm.roomBytes; omega
   have m4 : i + 1 ≤ Pm.maxL := by unfold Pm.maxL; omega
   have e3 : rws byP (l.take i) ++ [[PV.sl (nums .u8 l[i])]] = rws byP (l.take (i + 1)) := by rw [e2, ← rws_app]; rfl
   simp [hg, q, h, byP, m1, m2, m3, m4, e3, hr, hg]
   try simp (disch := omega) only [wrap_id']
   refine (ih.out (i + 1) _ ?_ ?_ ?_).trans ?_
   · omega
   · omega
   · simp [hg, List.take_take, e3]
   · rfl
 · have e : i = l.length := by omega
   subst e
   simp [hg]
 ) Tryz.f36 Tryz.results36 gl36)
theorem p35 (v : Val) (hv : VLen v) (b1 b2 b3 : Bool) (ih0 : ∀ u ∈ v.l, ∀ b1 b2 b3 : Bool, phi C0 (lim C0) 35 [.ag [(iv u.kind), (iv u.n), .pv b1 (.sl (nums .u8 u.s)), .pv b2 (.sl (rws byP u.k)), .pv b3 (.sl (rws vP u.l))]] [] = some (.ag [(iv u.kind), (iv u.n), .pv false (.sl (nums .u8 u.s)), .pv false (.sl (rws byP u.k)), .pv false (.sl (rws vP u.l))], [])) : phi C0 (lim C0) 35 [.ag [(iv v.kind), (iv v.n), .pv b1 (.sl (nums .u8 v.s)), .pv b2 (.sl (rws byP v.k)), .pv b3 (.sl (rws vP v.l))]] [] = some (.ag [(iv v.kind), (iv v.n), .pv false (.sl (nums .u8 v.s)), .pv false (.sl (rws byP v.k)), .pv false (.sl (rws vP v.l))], []) := call0 Tryz.func35 (by kernel_rfl) ((show ∀ fn : Func, fn.results = #[.cell 2 67] → globs fn = [0, 1, 20, 19, 21, 18, 3, 5, 2] → lim C0 35 fn [.c (code Tryz.f35)] ⟨_, _⟩ = _ from fun fn hr hg => by
 have hp1 := plan35_1
 simp [opsOf, code, Tryz.f35] at hp1
 have hp5 := plan35_5
 simp [opsOf, code, Tryz.f35] at hp5
 have q1 := fun b => p34 b v.s hv.here.1
 have q2 := fun b => p36 b v.k hv.here.2.1
 have h1 : v.l.length ≤ 1048576 := hv.here.2.2
 simp [code, Tryz.f35, hr, hg, hp1, hp5, q1, q2]
 refine (loop_to (s0 := ?s2) (fun x => v.l.length - x.1) (fun x => [(20, (iv ((x.1 : Nat))))]) (fun x => [(16, .box [(iv v.kind), (iv v.n), .pv b1 (.sl (nums .u8 v.s)), .pv b2 (.sl (rws byP v.k)), .pv b3 (.sl (rws vP v.l))]), (18, .box [(iv 0), (iv 0), .nl, .nl, .nl]), (20, .box [(iv v.kind), (iv v.n), .pv false (.sl (nums .u8 v.s)), .pv false (.sl (rws byP v.k)), slT 22 (x.2)])] ++ slH 22 67 5 vP (x.2)) (fun x K => K [(20, (iv v.l.length))] ([(16, .box [(iv v.kind), (iv v.n), .pv b1 (.sl (nums .u8 v.s)), .pv b2 (.sl (rws byP v.k)), .pv b3 (.sl (rws vP v.l))]), (18, .box [(iv 0), (iv 0), .nl, .nl, .nl]), (20, .box [(iv v.kind), (iv v.n), .pv false (.sl (nums .u8 v.s)), .pv false (.sl (rws byP v.k)), slT 22 (x.2 ++ v.l.drop x.1)])] ++ slH 22 67 5 vP (x.2 ++ v.l.drop x.1))) (fun x => x.1 ≤ v.l.length ∧ x.2.length = x.1) ((0 : Nat), ([] : List Val)) ?hc2 ?h02 ?hs2 ?step2).trans ?r2
 case hc2 => simp; rfl
 case h02 => first | (simp; done) | (simp [*]; done) | exact ⟨by simp, ⟨rfl⟩⟩ | grind | (simp; omega)
 case hs2 => first | (simp; done) | (simp [*]; done)
 case r2 => cases hk : v.l <;> simp [hg, hk, hr, hg, hp1, hp5]
 rintro k ⟨i, acc⟩ ⟨hi, ha⟩ ih
 simp at hi ha
 simp [hg]
 rcases acc with _ | ⟨a0, acc⟩
 · have hi0 : i = 0 := by simpa using ha.symm
   subst hi0
   by_cases h : 0 < v.l.length
   · have q := ih0 v.l[0] (List.getElem_mem h)
     have m3 : 88 ≤ Pm.roomBytes := by unfold Pm.roomBytes; omega
     have m4 : 1 ≤ Pm.maxL := by unfold Pm.maxL; omega
     have e5 : ([v.l[0]] : List Val) ++ List.drop 1 v.l = v.l := (drop_at h).symm
     simp [hg, q, h, m3, m4, hr, hg, hp1, hp5]
     try simp (disch := omega) only [wrap_id']
     refine (ih.out (1, [v.l[0]]) _ ?_ ?_ ?_).trans ?_
     · simp [hg]; omega
     · simp [hg]; omega
     · simp [hg]
     · dsimp only
       rw [e5]
       simp [hg]
   · have e : v.l = [] := List.length_eq_zero_iff.1 (by omega)
     simp [hg, e]
 · simp at ha
   simp [hg]
   by_cases h : i < v.l.length
   · have q := ih0 v.l[i] (List.getElem_mem h)
     have m2 : Spare (acc.length + 1) (acc.length + 1) = False := by simp [hg, Spare]
     have m3 : (acc.length + 1 + 1) * 88 ≤ Pm.roomBytes := by unfold Pm.roomBytes; omega
     have m4 : acc.length + 1 + 1 ≤ Pm.maxL := by unfold Pm.maxL; omega
     have e3 : rws vP (a0 :: acc) ++ [[.sc (.int .i64 (v.l[i]).kind), .sc (.int .i64 (v.l[i]).n), .sl (nums .u8 (v.l[i]).s), .sl (rws byP (v.l[i]).k), .sl (rws vP (v.l[i]).l)]] = rws vP (a0 :: (acc ++ [v.l[i]])) := by rw [← vP_eq, ← rws_single, rws_app]; rfl
     have e4 := drop_at h
     simp [hg, q, h, m2, m3, m4, e3, hr, hg, hp1, hp5]
     try simp (disch := omega) only [wrap_id']
     refine (ih.out (i + 1, a0 :: (acc ++ [v.l[i]])) _ ?_ ?_ ?_).trans ?_
     · simp [hg]; omega
     · simp [hg]; omega
     · simp [hg, e3]
     · dsimp only
       simp [hg]
       try rw [e4]
       try simp [hg]
   · have e : i = v.l.length := by omega
     subst e
     simp [hg]
 ) Tryz.f35 Tryz.results35 gl35)
theorem pCopyV (v : Val) (hv : VLen v) : ∀ (b1 b2 b3 : Bool), phi C0 (lim C0) 35 [.ag [(iv v.kind), (iv v.n), .pv b1 (.sl (nums .u8 v.s)), .pv b2 (.sl (rws byP v.k)), .pv b3 (.sl (rws vP v.l))]] [] = some (.ag [(iv v.kind), (iv v.n), .pv false (.sl (nums .u8 v.s)), .pv false (.sl (rws byP v.k)), .pv false (.sl (rws vP v.l))], []) := by
 revert hv
 refine Val.ind1 (P := fun v => VLen v → ∀ (b1 b2 b3 : Bool), phi C0 (lim C0) 35 [.ag [(iv v.kind), (iv v.n), .pv b1 (.sl (nums .u8 v.s)), .pv b2 (.sl (rws byP v.k)), .pv b3 (.sl (rws vP v.l))]] [] = some (.ag [(iv v.kind), (iv v.n), .pv false (.sl (nums .u8 v.s)), .pv false (.sl (rws byP v.k)), .pv false (.sl (rws vP v.l))], [])) (fun v ih hv b1 b2 b3 => ?_) v
 exact p35 v hv b1 b2 b3 fun u hu => ih u hu (hv.sub u hu)
end Go.Proofs.YtgbfmdihmnpcdaaGreatDoor
