/- Copies as trees, by the program. -/
import Derived.Test.YtgbfmdihmnpcdaaGreatDoorRW26
import Derived.Test.YtgbfmdihmnpcdaaGreatDoorT3
namespace Go.Proofs.YtgbfmdihmnpcdaaGreatDoor
open Go Go.Pm Go.Proofs
set_option linter.unusedVariables false
set_option linter.unusedSimpArgs false
set_option maxRecDepth 100000
set_option maxHeartbeats 4000000
@[simp] theorem nums_sc (k : IntKind) (l : List Int) : ((nums k l).all fun r => r.all PV.isSc) = true := by
 simp [rws, PV.isSc]
def trT {α : Type} (o : Nat) : List α → TV
 | [] => .ref o 0 0
 | a :: l => .nr o [] 0 (l.length + 1)
def trO {α : Type} (e k : Nat) (enc : α → List PV) : List α → OB
 | [] => .row .own e k []
 | a :: l => .tree .own (enc a :: rws enc l)
def tnT {α : Type} (o : Nat) : List α → TV
 | [] => .nl
 | a :: l => .nr o [] 0 (l.length + 1)
def tnH {α : Type} (o : Nat) (enc : α → List PV) : List α → Hp
 | [] => []
 | a :: l => [(o, .tree .own (enc a :: rws enc l))]
@[simp] theorem trT_nil {α : Type} (o : Nat) : trT o ([] : List α) = .ref o 0 0 := rfl
@[simp] theorem trT_cons {α : Type} (o : Nat) (a : α) (l : List α) : trT o (a :: l) = .nr o [] 0 (l.length + 1) := rfl
@[simp] theorem trO_nil {α : Type} (e k : Nat) (enc : α → List PV) : trO e k enc [] = .row .own e k [] := rfl
@[simp] theorem trO_cons {α : Type} (e k : Nat) (enc : α → List PV) (a : α) (l : List α) : trO e k enc (a :: l) = .tree .own (enc a :: rws enc l) := rfl
@[simp] theorem tnT_nil {α : Type} (o : Nat) : tnT o ([] : List α) = .nl := rfl
@[simp] theorem tnT_cons {α : Type} (o : Nat) (a : α) (l : List α) : tnT o (a :: l) = .nr o [] 0 (l.length + 1) := rfl
@[simp] theorem tnH_nil {α : Type} (o : Nat) (enc : α → List PV) : tnH o enc ([] : List α) = [] := rfl
@[simp] theorem tnH_cons {α : Type} (o : Nat) (enc : α → List PV) (a : α) (l : List α) : tnH o enc (a :: l) = [(o, .tree .own (enc a :: rws enc l))] := rfl
theorem t34 (b : Bool) (s : List Int) (hs : s.length ≤ 1048576) : phi C3 (lim C3) 34 [.pv b (.sl (nums .u8 s))] [] = some (.nr 16 [] 0 s.length, [(16, .tree .own (nums .u8 s))]) := call3 Tryz.func34 (by kernel_rfl) ((show ∀ fn : Func, fn.results = #[.tmp 2] → lim C3 34 fn [.c (code Tryz.f34)] ⟨_, _⟩ = _ from fun fn hr => by
 have g1 : s.length ≤ Pm.roomBytes := by unfold Pm.roomBytes; omega
 have g2 : s.length ≤ Pm.maxL := by unfold Pm.maxL; omega
 have g3 : (∀ (r : List PV), r ∈ rws (numP .u8) s → r.length = 1) = True := eq_true (rws_all _ _ fun _ => rfl)
 have g4 : Spare 0 0 = False := by simp [Spare]
 simp [code, Tryz.f34, hr, g1, g2, g3, g4]
 ) Tryz.f34 Tryz.results34)
theorem t36 (b : Bool) (l : List (List Int)) (hl : lenBB l) : phi C3 (lim C3) 36 [.pv b (.sl (rws byP l))] [] = some (.nr 16 [] 0 l.length, [(16, .tree .own (rws byP l))]) := call3 Tryz.func36 (by kernel_rfl) ((show ∀ fn : Func, fn.results = #[.tmp 2] → globs fn = [0, 9, 8, 10, 7, 5, 3, 2] → lim C3 36 fn [.c (code Tryz.f36)] ⟨_, _⟩ = _ from fun fn hr hg => by
 have h1 : l.length ≤ 1048576 := hl.1
 simp [code, Tryz.f36, hr, hg]
 refine (loop_to (s0 := ?s1) (fun x => l.length - x.1) (fun x => [(3, trT 16 x.2), (9, (iv ((x.1 : Nat))))]) (fun x => [(16, trO 25 1 byP x.2)]) (fun x K => K [(3, trT 16 l), (9, (iv l.length))] [(16, trO 25 1 byP l)]) (fun x => x.1 ≤ l.length ∧ x.2 ++ l.drop x.1 = l) (0, ([] : List (List Int))) ?hc1 ?h01 ?hs1 ?step1).trans ?r1
 case hc1 => simp; rfl
 case h01 => first | (simp; done) | (simp [*]; done) | exact ⟨by simp, ⟨rfl⟩⟩ | grind | (simp; omega)
 case hs1 => first | (simp; done) | (simp [*]; done)
 case r1 => cases l <;> simp [hg, rws, hr, hg]
 rintro k ⟨i, acc⟩ ⟨hi, ha⟩ ih
 simp at hi ha
 simp [hg]
 (first | refine ifL_cases (fun h => ?_) (fun h => ?_) | refine gI_cases' (fun h => ?_) (fun h => ?_) | refine gI_cases (fun h => ?_) (fun h => ?_) | refine dI_cases' (fun h => ?_) (fun h => ?_) | refine dI_cases (fun h => ?_) (fun h => ?_)) <;> first | replace h := of_decide_eq_true h | replace h := of_decide_eq_false h | skip
 · have q := fun b => t34 b l[i] (hl.2 _ (List.getElem_mem h))
   have hlen : acc.length + (l.length - i) = l.length := by have := congrArg List.length ha; simpa using this
   have e5 : (acc ++ [l[i]]) ++ l.drop (i + 1) = l := by rw [List.append_assoc, List.singleton_append, ← drop_at h]; exact ha
   have g3 : ∀ acc : List (List Int), (∀ (r : List PV), r ∈ rws byP acc → r.length = 1) = True := fun acc => eq_true (rws_all _ _ fun _ => rfl)
   have m3 : (acc.length + 1) * 24 ≤ Pm.roomBytes := by unfold Pm.roomBytes; omega
   have m4 : acc.length + 1 ≤ Pm.maxL := by unfold Pm.maxL; omega
   rcases acc with _ | ⟨a0, acc⟩
   · simp at m3 m4 e5
     simp [hg, q, h, byP, m3, m4, hr, hg]
     try simp (disch := omega) only [wrap_id']
     refine (ih.out (i + 1, [l[i]]) _ ?_ ?_ ?_).trans ?_
     · simp [hg]; omega
     · exact ⟨by simp [hg]; omega, by simpa using e5⟩
     · simp [hg, byP]
     · rfl
   · simp at m3 m4 e5
     simp [hg, q, h, byP, m3, m4, g3, hr, hg]
     try simp (disch := omega) only [wrap_id']
     refine (ih.out (i + 1, a0 :: (acc ++ [l[i]])) _ ?_ ?_ ?_).trans ?_
     · simp [hg]; omega
     · exact ⟨by simp [hg]; omega, by simpa using e5⟩
     · simp [hg, byP, rws]
     · rfl
 · have e : i = l.length := by omega
   subst e
   simp at ha
   subst ha
   cases acc <;> simp [hg]
 ) Tryz.f36 Tryz.results36 gl36)
abbrev vT (o : Nat) (v : Val) : List TV := [(iv v.kind), (iv v.n), .nr o [] 0 v.s.length, .nr (o + 2) [] 0 v.k.length, .nr (o + 4) [] 0 v.l.length]
abbrev vO (o : Nat) (v : Val) : Hp := [(o, .tree .own (nums .u8 v.s)), (o + 2, .tree .own (rws byP v.k)), (o + 4, .tree .own (rws vP v.l))]
theorem t35 (v : Val) (hv : VLen v) (b1 b2 b3 : Bool) (ih0 : ∀ u ∈ v.l, ∀ b1 b2 b3 : Bool, phi C3 (lim C3) 35 [.ag [(iv u.kind), (iv u.n), .pv b1 (.sl (nums .u8 u.s)), .pv b2 (.sl (rws byP u.k)), .pv b3 (.sl (rws vP u.l))]] [] = some (.ag (vT 16 u), vO 16 u)) : phi C3 (lim C3) 35 [.ag [(iv v.kind), (iv v.n), .pv b1 (.sl (nums .u8 v.s)), .pv b2 (.sl (rws byP v.k)), .pv b3 (.sl (rws vP v.l))]] [] = some (.ag (vT 16 v), vO 16 v) := call3 Tryz.func35 (by kernel_rfl) ((show ∀ fn : Func, fn.results = #[.cell 2 67] → globs fn = [0, 1, 20, 19, 21, 18, 3, 5, 2] → lim C3 35 fn [.c (code Tryz.f35)] ⟨_, _⟩ = _ from fun fn hr hg => by
 have hp1 := plan35_1
 simp [opsOf, code, Tryz.f35] at hp1
 have hp5 := plan35_5
 simp [opsOf, code, Tryz.f35] at hp5
 have q1 := fun b => t34 b v.s hv.here.1
 have q2 := fun b => t36 b v.k hv.here.2.1
 have h1 : v.l.length ≤ 1048576 := hv.here.2.2
 simp [code, Tryz.f35, hr, hg, hp1, hp5, q1, q2]
 refine (loop_to (s0 := ?s2) (fun x => v.l.length - x.1) (fun x => [(20, (iv ((x.1 : Nat))))]) (fun x => [(16, .box [(iv v.kind), (iv v.n), .pv b1 (.sl (nums .u8 v.s)), .pv b2 (.sl (rws byP v.k)), .pv b3 (.sl (rws vP v.l))]), (18, .box [(iv 0), (iv 0), .nl, .nl, .nl]), (20, .box [(iv v.kind), (iv v.n), .nr 22 [] 0 v.s.length, .nr 24 [] 0 v.k.length, tnT 26 (x.2)]), (22, .tree .own (nums .u8 v.s)), (24, .tree .own (rws byP v.k))] ++ tnH 26 vP (x.2)) (fun x K => K [(20, (iv v.l.length))] ([(16, .box [(iv v.kind), (iv v.n), .pv b1 (.sl (nums .u8 v.s)), .pv b2 (.sl (rws byP v.k)), .pv b3 (.sl (rws vP v.l))]), (18, .box [(iv 0), (iv 0), .nl, .nl, .nl]), (20, .box [(iv v.kind), (iv v.n), .nr 22 [] 0 v.s.length, .nr 24 [] 0 v.k.length, tnT 26 (x.2 ++ v.l.drop x.1)]), (22, .tree .own (nums .u8 v.s)), (24, .tree .own (rws byP v.k))] ++ tnH 26 vP (x.2 ++ v.l.drop x.1))) (fun x => x.1 ≤ v.l.length ∧ x.2.length = x.1) ((0 : Nat), ([] : List Val)) ?hc2 ?h02 ?hs2 ?step2).trans ?r2
 case hc2 => simp; rfl
 case h02 => first | (simp; done) | (simp [*]; done) | exact ⟨by simp, ⟨rfl⟩⟩ | grind | (simp; omega)
 case hs2 => first | (simp; done) | (simp [*]; done)
 case r2 => cases hk : v.l <;> simp [hg, hk, rws, hr, hg, hp1, hp5]
 rintro k ⟨i, acc⟩ ⟨hi, ha⟩ ih
 simp at hi ha
 simp [hg]
 rcases acc with _ | ⟨a0, acc⟩
 · have hi0 : i = 0 := by simpa using ha.symm
   subst hi0
   by_cases h : 0 < v.l.length
   · have q := ih0 v.l[0] (List.getElem_mem h)
     have m3 : 88 ≤ Pm.roomBytes := by unfold Pm.roomBytes; omega
     have m4 : 1 ≤ Pm.maxL := by unfold Pm.maxL; omega
     have e5 : ([v.l[0]] : List Val) ++ List.drop 1 v.l = v.l := (drop_at h).symm
     simp [hg, q, h, m3, m4, hr, hg, hp1, hp5]
     try simp (disch := omega) only [wrap_id']
     refine (ih.out (1, [v.l[0]]) _ ?_ ?_ ?_).trans ?_
     · simp [hg]; omega
     · simp [hg]; omega
     · simp [hg]
     · dsimp only
       rw [e5]
       simp [hg]
   · have e : v.l = [] := List.length_eq_zero_iff.1 (by omega)
     simp [hg, e]
 · simp at ha
   simp [hg]
   by_cases h : i < v.l.length
   · have q := ih0 v.l[i] (List.getElem_mem h)
     have m3 : (acc.length + 1 + 1) * 88 ≤ Pm.roomBytes := by unfold Pm.roomBytes; omega
     have m4 : acc.length + 1 + 1 ≤ Pm.maxL := by unfold Pm.maxL; omega
     have e3 : rws vP (a0 :: acc) ++ [[.sc (.int .i64 (v.l[i]).kind), .sc (.int .i64 (v.l[i]).n), .sl (nums .u8 (v.l[i]).s), .sl (rws byP (v.l[i]).k), .sl (rws vP (v.l[i]).l)]] = rws vP (a0 :: (acc ++ [v.l[i]])) := by rw [← vP_eq, ← rws_single, rws_app]; rfl
     have e4 := drop_at h
     have g3 : (∀ (r : List PV), r ∈ rws vP acc → r.length = 5) = True := eq_true (rws_all _ _ fun v => by simp [hg])
     simp [hg, q, h, m3, m4, g3, hr, hg, hp1, hp5]
     try simp (disch := omega) only [wrap_id']
     refine (ih.out (i + 1, a0 :: (acc ++ [v.l[i]])) _ ?_ ?_ ?_).trans ?_
     · simp [hg]; omega
     · simp [hg]; omega
     · simp [hg, rws]
     · dsimp only
       simp [hg]
       try rw [e4]
       try simp [hg]
   · have e : i = v.l.length := by omega
     subst e
     simp [hg]
 ) Tryz.f35 Tryz.results35 gl35)
theorem tCopyV (v : Val) (hv : VLen v) : ∀ (b1 b2 b3 : Bool), phi C3 (lim C3) 35 [.ag [(iv v.kind), (iv v.n), .pv b1 (.sl (nums .u8 v.s)), .pv b2 (.sl (rws byP v.k)), .pv b3 (.sl (rws vP v.l))]] [] = some (.ag (vT 16 v), vO 16 v) := by
 revert hv
 refine Val.ind1 (P := fun v => VLen v → ∀ (b1 b2 b3 : Bool), phi C3 (lim C3) 35 [.ag [(iv v.kind), (iv v.n), .pv b1 (.sl (nums .u8 v.s)), .pv b2 (.sl (rws byP v.k)), .pv b3 (.sl (rws vP v.l))]] [] = some (.ag (vT 16 v), vO 16 v)) (fun v ih hv b1 b2 b3 => ?_) v
 exact t35 v hv b1 b2 b3 fun u hu => ih u hu (hv.sub u hu)
abbrev nT (o : Nat) (x : En) : List TV := [.nr o [] 0 x.addr.length, (iv x.val.kind), (iv x.val.n), .nr (o + 2) [] 0 x.val.s.length, .nr (o + 4) [] 0 x.val.k.length, .nr (o + 6) [] 0 x.val.l.length, .nr (o + 8) [] 0 x.deps.length, (bv x.taint), (iv x.turned)]
abbrev nO (o : Nat) (x : En) : Hp := [(o, .tree .own (nums .u8 x.addr)), (o + 2, .tree .own (nums .u8 x.val.s)), (o + 4, .tree .own (rws byP x.val.k)), (o + 6, .tree .own (rws vP x.val.l)), (o + 8, .tree .own (rws byP x.deps))]
abbrev eT (o : Nat) (x : Ev) : List TV := [(iv x.kind), .nr o [] 0 x.addr.length, (iv x.act), (iv x.val.kind), (iv x.val.n), .nr (o + 2) [] 0 x.val.s.length, .nr (o + 4) [] 0 x.val.k.length, .nr (o + 6) [] 0 x.val.l.length, .nr (o + 8) [] 0 x.deps.length]
abbrev eO (o : Nat) (x : Ev) : Hp := [(o, .tree .own (nums .u8 x.addr)), (o + 2, .tree .own (nums .u8 x.val.s)), (o + 4, .tree .own (rws byP x.val.k)), (o + 6, .tree .own (rws vP x.val.l)), (o + 8, .tree .own (rws byP x.deps))]
theorem t156 (x : En) (hx : NOk x) (b1 b2 b3 b4 b5 : Bool) : phi C3 (lim C3) 156 [.ag [.pv b1 (.sl (nums .u8 x.addr)), (iv x.val.kind), (iv x.val.n), .pv b2 (.sl (nums .u8 x.val.s)), .pv b3 (.sl (rws byP x.val.k)), .pv b4 (.sl (rws vP x.val.l)), .pv b5 (.sl (rws byP x.deps)), (bv x.taint), (iv x.turned)]] [] = some (.ag (nT 16 x), nO 16 x) := call3 Tryz.func156 (by kernel_rfl) ((show ∀ fn : Func, fn.results = #[.cell 2 162] → lim C3 156 fn [.c (code Tryz.f156)] ⟨_, _⟩ = _ from fun fn hr => by
 have hp1 := plan156_1
 simp [opsOf, code, Tryz.f156] at hp1
 have q1 := fun b => t34 b x.addr hx.addr
 have q2 := tCopyV x.val hx.vl
 have q3 := fun b => t36 b x.deps hx.dl
 simp [code, Tryz.f156, hr, hp1, q1, q2, q3]
 ) Tryz.f156 Tryz.results156)
theorem t130 (x : Ev) (hx : EOk x) (b1 b2 b3 b4 b5 : Bool) : phi C3 (lim C3) 130 [.ag [(iv x.kind), .pv b1 (.sl (nums .u8 x.addr)), (iv x.act), (iv x.val.kind), (iv x.val.n), .pv b2 (.sl (nums .u8 x.val.s)), .pv b3 (.sl (rws byP x.val.k)), .pv b4 (.sl (rws vP x.val.l)), .pv b5 (.sl (rws byP x.deps))]] [] = some (.ag (eT 16 x), eO 16 x) := call3 Tryz.func130 (by kernel_rfl) ((show ∀ fn : Func, fn.results = #[.cell 2 126] → lim C3 130 fn [.c (code Tryz.f130)] ⟨_, _⟩ = _ from fun fn hr => by
 have hp1 := plan130_1
 simp [opsOf, code, Tryz.f130] at hp1
 have q1 := fun b => t34 b x.addr hx.addr
 have q2 := tCopyV x.val hx.vl
 have q3 := fun b => t36 b x.deps hx.dl
 simp [code, Tryz.f130, hr, hp1, q1, q2, q3]
 ) Tryz.f130 Tryz.results130)
abbrev sT (o : Nat) (s : Sta) : List TV := [(iv s.serial), (bv s.opn), .nr o [] 0 s.pend.length, (iv s.act), .nr (o + 2) [] 0 s.ents.length]
abbrev sO (o : Nat) (s : Sta) : Hp := [(o, .tree .own (nums .u8 s.pend)), (o + 2, .tree .own (rws nP s.ents))]
theorem t127 (s : Sta) (hs : SOk s) (b1 b2 : Bool) : phi C3 (lim C3) 127 [.ag [(iv s.serial), (bv s.opn), .pv b1 (.sl (nums .u8 s.pend)), (iv s.act), .pv b2 (.sl (rws nP s.ents))]] [] = some (.ag (sT 16 s), sO 16 s) := call3 Tryz.func127 (by kernel_rfl) ((show ∀ fn : Func, fn.results = #[.cell 2 48] → globs fn = [0, 1, 19, 18, 20, 17, 3, 5, 2] → lim C3 127 fn [.c (code Tryz.f127)] ⟨_, _⟩ = _ from fun fn hr hg => by
 have hp1 := plan127_1
 simp [opsOf, code, Tryz.f127] at hp1
 have hp5 := plan127_5
 simp [opsOf, code, Tryz.f127] at hp5
 have q1 := fun b => t34 b s.pend hs.pend
 have h1 : s.ents.length ≤ 1048576 := hs.ents
 simp [code, Tryz.f127, hr, hg, hp1, hp5, q1]
 refine (loop_to (s0 := ?s3) (fun x => s.ents.length - x.1) (fun x => [(19, (iv ((x.1 : Nat))))]) (fun x => [(16, .box [(iv s.serial), (bv s.opn), .pv b1 (.sl (nums .u8 s.pend)), (iv s.act), .pv b2 (.sl (rws nP s.ents))]), (18, .box [(iv 0), (bv false), .nl, (iv 0), .nl]), (20, .box [(iv s.serial), (bv s.opn), .nr 22 [] 0 s.pend.length, (iv s.act), tnT 24 x.2]), (22, .tree .own (nums .u8 s.pend))] ++ tnH 24 nP x.2) (fun x K => K [(19, (iv s.ents.length))] ([(16, .box [(iv s.serial), (bv s.opn), .pv b1 (.sl (nums .u8 s.pend)), (iv s.act), .pv b2 (.sl (rws nP s.ents))]), (18, .box [(iv 0), (bv false), .nl, (iv 0), .nl]), (20, .box [(iv s.serial), (bv s.opn), .nr 22 [] 0 s.pend.length, (iv s.act), tnT 24 s.ents]), (22, .tree .own (nums .u8 s.pend))] ++ tnH 24 nP s.ents)) (fun x => x.1 ≤ s.ents.length ∧ x.2 ++ s.ents.drop x.1 = s.ents) (0, ([] : List En)) ?hc3 ?h03 ?hs3 ?step3).trans ?r3
 case hc3 => simp; rfl
 case h03 => first | (simp; done) | (simp [*]; done) | exact ⟨by simp, ⟨rfl⟩⟩ | grind | (simp; omega)
 case hs3 => first | (simp; done) | (simp [*]; done)
 case r3 => cases hq : s.ents <;> simp [hg, hq, rws, hr, hg, hp1, hp5]
 rintro k ⟨i, acc⟩ ⟨hi, hac⟩ ih
 simp at hi hac
 simp [hg]
 by_cases h : i < s.ents.length
 · have q2 := t156 s.ents[i] (hs.all _ (List.getElem_mem h))
   have hlen : acc.length + (s.ents.length - i) = s.ents.length := by have := congrArg List.length hac; simpa using this
   have e5 : (acc ++ [s.ents[i]]) ++ s.ents.drop (i + 1) = s.ents := by rw [List.append_assoc, List.singleton_append, ← drop_at h]; exact hac
   have g5 : ∀ acc : List En, (∀ (r : List PV), r ∈ rws nP acc → r.length = 9) = True := fun acc => eq_true (rws_all _ _ fun _ => by simp [hg])
   have m3 : (acc.length + 1) * 152 ≤ Pm.roomBytes := by unfold Pm.roomBytes; omega
   have m4 : acc.length + 1 ≤ Pm.maxL := by unfold Pm.maxL; omega
   rcases acc with _ | ⟨a0, acc⟩
   · simp at m3 m4 e5
     simp [hg, q2, h, m3, m4, hr, hg, hp1, hp5]
     try simp (disch := omega) only [wrap_id']
     refine (ih.out (i + 1, [s.ents[i]]) _ ?_ ?_ ?_).trans ?_
     · simp [hg]; omega
     · exact ⟨by simp [hg]; omega, by simpa using e5⟩
     · simp [hg, rws]
     · rfl
   · simp at m3 m4 e5
     simp [hg, q2, h, m3, m4, g5, hr, hg, hp1, hp5]
     try simp (disch := omega) only [wrap_id']
     refine (ih.out (i + 1, a0 :: (acc ++ [s.ents[i]])) _ ?_ ?_ ?_).trans ?_
     · simp [hg]; omega
     · exact ⟨by simp [hg]; omega, by simpa using e5⟩
     · simp [hg, rws]
     · rfl
 · have e : i = s.ents.length := by omega
   subst e
   simp at hac
   cases hq : s.ents with
   | nil => rw [hq] at hac; subst hac; simp [hg, hq]
   | cons v0 vv => rw [hq] at hac; subst hac; simp [hg, hq]
 ) Tryz.f127 Tryz.results127 gl127)
abbrev hT (o : Nat) (h : His) : List TV := [(iv h.base.serial), (bv h.base.opn), .nr o [] 0 h.base.pend.length, (iv h.base.act), .nr (o + 2) [] 0 h.base.ents.length, .nr (o + 4) [] 0 h.evs.length, (iv h.safe)]
abbrev hO (o : Nat) (h : His) : Hp := [(o, .tree .own (nums .u8 h.base.pend)), (o + 2, .tree .own (rws nP h.base.ents)), (o + 4, .tree .own (rws eP h.evs))]
theorem t92 (h : His) (ho : HOk h) (b1 b2 b3 : Bool) : phi C3 (lim C3) 92 [.ag [(iv h.base.serial), (bv h.base.opn), .pv b1 (.sl (nums .u8 h.base.pend)), (iv h.base.act), .pv b2 (.sl (rws nP h.base.ents)), .pv b3 (.sl (rws eP h.evs)), (iv h.safe)]] [] = some (.ag [(iv h.base.serial), (bv h.base.opn), .nr 16 [] 0 h.base.pend.length, (iv h.base.act), .nr 18 [] 0 h.base.ents.length, tnT 20 h.evs, (iv h.safe)], [(16, .tree .own (nums .u8 h.base.pend)), (18, .tree .own (rws nP h.base.ents))] ++ tnH 20 eP h.evs) := call3 Tryz.func92 (by kernel_rfl) ((show ∀ fn : Func, fn.results = #[.cell 2 51] → globs fn = [0, 1, 15, 14, 16, 13, 3, 5, 2] → lim C3 92 fn [.c (code Tryz.f92)] ⟨_, _⟩ = _ from fun fn hr hg => by
 have hp1 := plan92_1
 simp [opsOf, code, Tryz.f92] at hp1
 have hp5 := plan92_5
 simp [opsOf, code, Tryz.f92] at hp5
 have q1 := t127 h.base ho.base
 have h1 : h.evs.length ≤ 1048576 := ho.evs
 simp [code, Tryz.f92, hr, hg, hp1, hp5, q1]
 refine (loop_to (s0 := ?s4) (fun x => h.evs.length - x.1) (fun x => [(15, (iv ((x.1 : Nat))))]) (fun x => [(16, .box [(iv h.base.serial), (bv h.base.opn), .pv b1 (.sl (nums .u8 h.base.pend)), (iv h.base.act), .pv b2 (.sl (rws nP h.base.ents)), .pv b3 (.sl (rws eP h.evs)), (iv h.safe)]), (18, .box [(iv 0), (bv false), .nl, (iv 0), .nl, .nl, (iv 0)]), (20, .box [(iv h.base.serial), (bv h.base.opn), .nr 22 [] 0 h.base.pend.length, (iv h.base.act), .nr 24 [] 0 h.base.ents.length, tnT 26 x.2, (iv h.safe)]), (22, .tree .own (nums .u8 h.base.pend)), (24, .tree .own (rws nP h.base.ents))] ++ tnH 26 eP x.2) (fun x K => K [(15, (iv h.evs.length))] ([(16, .box [(iv h.base.serial), (bv h.base.opn), .pv b1 (.sl (nums .u8 h.base.pend)), (iv h.base.act), .pv b2 (.sl (rws nP h.base.ents)), .pv b3 (.sl (rws eP h.evs)), (iv h.safe)]), (18, .box [(iv 0), (bv false), .nl, (iv 0), .nl, .nl, (iv 0)]), (20, .box [(iv h.base.serial), (bv h.base.opn), .nr 22 [] 0 h.base.pend.length, (iv h.base.act), .nr 24 [] 0 h.base.ents.length, tnT 26 h.evs, (iv h.safe)]), (22, .tree .own (nums .u8 h.base.pend)), (24, .tree .own (rws nP h.base.ents))] ++ tnH 26 eP h.evs)) (fun x => x.1 ≤ h.evs.length ∧ x.2 ++ h.evs.drop x.1 = h.evs) (0, ([] : List Ev)) ?hc4 ?h04 ?hs4 ?step4).trans ?r4
 case hc4 => simp; rfl
 case h04 => first | (simp; done) | (simp [*]; done) | exact ⟨by simp, ⟨rfl⟩⟩ | grind | (simp; omega)
 case hs4 => first | (simp; done) | (simp [*]; done)
 case r4 => cases hq : h.evs <;> simp [hg, hq, rws, hr, hg, hp1, hp5]
 rintro k ⟨i, acc⟩ ⟨hi, hac⟩ ih
 simp at hi hac
 simp [hg]
 by_cases hlt : i < h.evs.length
 · have q2 := t130 h.evs[i] (ho.all _ (List.getElem_mem hlt))
   have hlen : acc.length + (h.evs.length - i) = h.evs.length := by have := congrArg List.length hac; simpa using this
   have e5 : (acc ++ [h.evs[i]]) ++ h.evs.drop (i + 1) = h.evs := by rw [List.append_assoc, List.singleton_append, ← drop_at hlt]; exact hac
   have g5 : ∀ acc : List Ev, (∀ (r : List PV), r ∈ rws eP acc → r.length = 9) = True := fun acc => eq_true (rws_all _ _ fun _ => by simp [hg])
   have m3 : (acc.length + 1) * 152 ≤ Pm.roomBytes := by unfold Pm.roomBytes; omega
   have m4 : acc.length + 1 ≤ Pm.maxL := by unfold Pm.maxL; omega
   rcases acc with _ | ⟨a0, acc⟩
   · simp at m3 m4 e5
     simp [hg, q2, hlt, m3, m4, hr, hg, hp1, hp5]
     try simp (disch := omega) only [wrap_id']
     refine (ih.out (i + 1, [h.evs[i]]) _ ?_ ?_ ?_).trans ?_
     · simp [hg]; omega
     · exact ⟨by simp [hg]; omega, by simpa using e5⟩
     · simp [hg, rws]
     · rfl
   · simp at m3 m4 e5
     simp [hg, q2, hlt, m3, m4, g5, hr, hg, hp1, hp5]
     try simp (disch := omega) only [wrap_id']
     refine (ih.out (i + 1, a0 :: (acc ++ [h.evs[i]])) _ ?_ ?_ ?_).trans ?_
     · simp [hg]; omega
     · exact ⟨by simp [hg]; omega, by simpa using e5⟩
     · simp [hg, rws]
     · rfl
 · have e : i = h.evs.length := by omega
   subst e
   simp at hac
   cases hq : h.evs with
   | nil => rw [hq] at hac; subst hac; simp [hg, hq]
   | cons v0 vv => rw [hq] at hac; subst hac; simp [hg, hq]
 ) Tryz.f92 Tryz.results92 gl92)
end Go.Proofs.YtgbfmdihmnpcdaaGreatDoor
