/- A run that was broken off is ended, by the reference. -/
import Derived.Test.YtgbfmdihmnpcdaaGreatDoorRW28
import Derived.Test.YtgbfmdihmnpcdaaGreatDoorR1
namespace Go.Proofs.YtgbfmdihmnpcdaaGreatDoor
open Go Go.Pm Go.Proofs
set_option linter.unusedVariables false
set_option linter.unusedSimpArgs false
set_option maxRecDepth 100000
set_option maxHeartbeats 4000000
def rst : Ev := ⟨6, [], 0, .mk 0 0 [] [] [], []⟩
theorem rst_ok : EOk rst :=
 ⟨by simp [rst], rfl, .mk ⟨by simp [lenB, Val.s, rst], ⟨by simp [Val.k, rst], fun b hb => by cases hb⟩, by simp [Val.l, rst]⟩ (fun u hu => by cases hu), .mk ⟨rfl, fun b hb => by cases hb⟩ (fun u hu => by cases hu), by simp [ptV, ptVs, rst], ⟨by simp [rst], fun b hb => by cases hb⟩, fun b hb => by cases hb⟩
theorem rst_ev : evB rst = true := by decide
theorem rst_may (s : Sta) : mayS s rst = (decide (s.serial < 1000000) && s.opn) := by simp [mayS, rst]
theorem p123_gn (h : His) (s : Sta) (hs : SOk s) (hser : 0 ≤ s.serial ∧ s.serial < 1000000) (hp : s.pend = []) : phi C0 (lim C0) 123 [.bp 0 7, .ag [(iv rst.kind), .pv false (.sl (nums .u8 rst.addr)), (iv rst.act), (iv rst.val.kind), (iv rst.val.n), .pv false (.sl (nums .u8 rst.val.s)), .pv false (.sl (rws byP rst.val.k)), .pv false (.sl (rws vP rst.val.l)), .pv false (.sl (rws byP rst.deps))]] [(0, .box [(iv h.base.serial), (bv h.base.opn), .pv false (.sl (nums .u8 h.base.pend)), (iv h.base.act), .pv false (.sl (rws nP h.base.ents)), .pv false (.sl (rws eP h.evs)), (iv h.safe), (iv s.serial), (bv s.opn), .pv false (.sl (nums .u8 s.pend)), (iv s.act), .pv false (.sl (rws nP s.ents)), .nl, (iv 0), .nl, .nl, (bv false)])] = some (.tu [], [(0, .box [(iv h.base.serial), (bv h.base.opn), .pv false (.sl (nums .u8 h.base.pend)), (iv h.base.act), .pv false (.sl (rws nP h.base.ents)), .pv false (.sl (rws eP h.evs)), (iv h.safe), (iv (s.serial + 1)), (bv false), .nl, (iv 0), .pv false (.sl (rws nP s.ents)), .nl, (iv 0), .nl, .nl, (bv false)])]) := call0 Tryz.func123 (by kernel_rfl) ((show ∀ fn : Func, fn.results = #[] → lim C0 123 fn [.c (code Tryz.f123)] ⟨_, _⟩ = _ from fun fn hr => by
 have hp2 := plan123_2
 simp [opsOf, code, Tryz.f123] at hp2
 have hp10 := plan123_10
 simp [opsOf, code, Tryz.f123] at hp10
 have hp12 := plan123_12
 simp [opsOf, code, Tryz.f123] at hp12
 have hp19 := plan123_19
 simp [opsOf, code, Tryz.f123] at hp19
 have hp21 := plan123_21
 simp [opsOf, code, Tryz.f123] at hp21
 have q1 := fun b b0 => p118 ⟨s.serial + 1, s.opn, s.pend, s.act, s.ents⟩ s.pend b ⟨hs.pend, hs.pendB, hs.ents, hs.all⟩ hs.pendB b0
 dsimp only at q1
 have hw : IntKind.i64.wrap (s.serial + 1) = s.serial + 1 := wrap_id' (by omega)
 have hall : ∀ x ∈ s.ents, byteOk x.addr = true := fun x hx => (hs.all x hx).addrB
 rw [hp] at q1
 simp only [rws_nil] at q1
 generalize fndN _ s.ents 0 = fd at *
 simp [code, Tryz.f123, hr, hp2, hp10, hp12, hp19, hp21, q1, hw, rst, hp]
 ) Tryz.f123 Tryz.results123)
theorem p123_ga (h : His) (s : Sta) (hs : SOk s) (hser : 0 ≤ s.serial ∧ s.serial < 1000000) (hp : s.pend ≠ []) (j : Nat) (hj : fndN s.pend s.ents 0 = (j : Nat)) (x : En) (hx : s.ents[j]? = some x) : phi C0 (lim C0) 123 [.bp 0 7, .ag [(iv rst.kind), .pv false (.sl (nums .u8 rst.addr)), (iv rst.act), (iv rst.val.kind), (iv rst.val.n), .pv false (.sl (nums .u8 rst.val.s)), .pv false (.sl (rws byP rst.val.k)), .pv false (.sl (rws vP rst.val.l)), .pv false (.sl (rws byP rst.deps))]] [(0, .box [(iv h.base.serial), (bv h.base.opn), .pv false (.sl (nums .u8 h.base.pend)), (iv h.base.act), .pv false (.sl (rws nP h.base.ents)), .pv false (.sl (rws eP h.evs)), (iv h.safe), (iv s.serial), (bv s.opn), .pv false (.sl (nums .u8 s.pend)), (iv s.act), .pv false (.sl (rws nP s.ents)), .nl, (iv 0), .nl, .nl, (bv false)])] = some (.tu [], [(0, .box [(iv h.base.serial), (bv h.base.opn), .pv false (.sl (nums .u8 h.base.pend)), (iv h.base.act), .pv false (.sl (rws nP h.base.ents)), .pv false (.sl (rws eP h.evs)), (iv h.safe), (iv (s.serial + 1)), (bv false), .nl, (iv 0), .ref 18 0 (s.ents.set j (tntE (s.serial + 1) x)).length, .nl, (iv 0), .nl, .nl, (bv false)]), (18, .row .own 162 9 (rws nP (s.ents.set j (tntE (s.serial + 1) x))))]) := call0 Tryz.func123 (by kernel_rfl) ((show ∀ fn : Func, fn.results = #[] → lim C0 123 fn [.c (code Tryz.f123)] ⟨_, _⟩ = _ from fun fn hr => by
 have hp2 := plan123_2
 simp [opsOf, code, Tryz.f123] at hp2
 have hp10 := plan123_10
 simp [opsOf, code, Tryz.f123] at hp10
 have hp12 := plan123_12
 simp [opsOf, code, Tryz.f123] at hp12
 have hp19 := plan123_19
 simp [opsOf, code, Tryz.f123] at hp19
 have hp21 := plan123_21
 simp [opsOf, code, Tryz.f123] at hp21
 have q1 := fun b b0 => p118 ⟨s.serial + 1, s.opn, s.pend, s.act, s.ents⟩ s.pend b ⟨hs.pend, hs.pendB, hs.ents, hs.all⟩ hs.pendB b0
 dsimp only at q1
 have hw : IntKind.i64.wrap (s.serial + 1) = s.serial + 1 := wrap_id' (by omega)
 have hall : ∀ x ∈ s.ents, byteOk x.addr = true := fun x hx => (hs.all x hx).addrB
 rw [hj] at q1
 have hjl : j < s.ents.length := (List.getElem?_eq_some_iff.1 hx).1
 obtain rfl : s.ents[j] = x := (List.getElem?_eq_some_iff.1 hx).2
 have hl1 : 0 < s.pend.length := List.length_pos_iff.2 hp
 have hl2 : s.pend.length ≠ 0 := by omega
 have hl := hs.ents
 have c2 : (∀ (r : List PV), r ∈ rws nP s.ents → r.length = 9) = True := eq_true (nP_allQ _)
 have c5 : s.ents.length * 152 ≤ Pm.roomBytes := by unfold Pm.roomBytes; omega
 have c6 : s.ents.length ≤ Pm.maxL := by unfold Pm.maxL; omega
 have e := nP_setQ s.ents (tntE (s.serial + 1) s.ents[j]) j
 simp only [tntE] at e
 simp [code, Tryz.f123, hr, hp2, hp10, hp12, hp19, hp21, q1, hw, rst, hp, hl1, hl2, hjl, c2, c5, c6]
 exact e
 ) Tryz.f123 Tryz.results123)
theorem p123_gb (h : His) (s : Sta) (hs : SOk s) (hser : 0 ≤ s.serial ∧ s.serial < 1000000) (hp : s.pend ≠ []) (hf : ¬ 0 ≤ fndN s.pend s.ents 0) : phi C0 (lim C0) 123 [.bp 0 7, .ag [(iv rst.kind), .pv false (.sl (nums .u8 rst.addr)), (iv rst.act), (iv rst.val.kind), (iv rst.val.n), .pv false (.sl (nums .u8 rst.val.s)), .pv false (.sl (rws byP rst.val.k)), .pv false (.sl (rws vP rst.val.l)), .pv false (.sl (rws byP rst.deps))]] [(0, .box [(iv h.base.serial), (bv h.base.opn), .pv false (.sl (nums .u8 h.base.pend)), (iv h.base.act), .pv false (.sl (rws nP h.base.ents)), .pv false (.sl (rws eP h.evs)), (iv h.safe), (iv s.serial), (bv s.opn), .pv false (.sl (nums .u8 s.pend)), (iv s.act), .pv false (.sl (rws nP s.ents)), .nl, (iv 0), .nl, .nl, (bv false)])] = some (.tu [], [(0, .box [(iv h.base.serial), (bv h.base.opn), .pv false (.sl (nums .u8 h.base.pend)), (iv h.base.act), .pv false (.sl (rws nP h.base.ents)), .pv false (.sl (rws eP h.evs)), (iv h.safe), (iv (s.serial + 1)), (bv false), .nl, (iv 0), .ref 18 0 (putL ⟨s.pend, .mk 5 0 [] [] [], [], true, s.serial + 1⟩ false s.ents).length, .nl, (iv 0), .nl, .nl, (bv false)]), (18, .row .own 162 9 (rws nP (putL ⟨s.pend, .mk 5 0 [] [] [], [], true, s.serial + 1⟩ false s.ents)))]) := call0 Tryz.func123 (by kernel_rfl) ((show ∀ fn : Func, fn.results = #[] → lim C0 123 fn [.c (code Tryz.f123)] ⟨_, _⟩ = _ from fun fn hr => by
 have hp2 := plan123_2
 simp [opsOf, code, Tryz.f123] at hp2
 have hp10 := plan123_10
 simp [opsOf, code, Tryz.f123] at hp10
 have hp12 := plan123_12
 simp [opsOf, code, Tryz.f123] at hp12
 have hp19 := plan123_19
 simp [opsOf, code, Tryz.f123] at hp19
 have hp21 := plan123_21
 simp [opsOf, code, Tryz.f123] at hp21
 have q1 := fun b b0 => p118 ⟨s.serial + 1, s.opn, s.pend, s.act, s.ents⟩ s.pend b ⟨hs.pend, hs.pendB, hs.ents, hs.all⟩ hs.pendB b0
 dsimp only at q1
 have hw : IntKind.i64.wrap (s.serial + 1) = s.serial + 1 := wrap_id' (by omega)
 have hall : ∀ x ∈ s.ents, byteOk x.addr = true := fun x hx => (hs.all x hx).addrB
 have hl1 : 0 < s.pend.length := List.length_pos_iff.2 hp
 have hl2 : s.pend.length ≠ 0 := by omega
 have q2 := fun b => p152 b s.ents ⟨s.pend, .mk 5 0 [] [] [], [], true, s.serial + 1⟩ hs.ents hs.pendB hall
 simp only [Val.kind, Val.n, Val.s, Val.k, Val.l, rws_nil] at q2
 generalize fndN _ s.ents 0 = fd at *
 simp [code, Tryz.f123, hr, hp2, hp10, hp12, hp19, hp21, q1, q2, hw, rst, hp, hl1, hl2, hf]
 ) Tryz.f123 Tryz.results123)
theorem p87_f (h : His) (s : Sta) (hs : SOk s) (hser : 0 ≤ s.serial ∧ s.serial ≤ 1000000) (hl : 300 ≤ h.evs.length) (hl2 : h.evs.length ≤ 1048576) : phi C0 (lim C0) 87 [.bp 0 0, .ag [(iv rst.kind), .pv false (.sl (nums .u8 rst.addr)), (iv rst.act), (iv rst.val.kind), (iv rst.val.n), .pv false (.sl (nums .u8 rst.val.s)), .pv false (.sl (rws byP rst.val.k)), .pv false (.sl (rws vP rst.val.l)), .pv false (.sl (rws byP rst.deps))], (bv true)] [(0, .box [(iv h.base.serial), (bv h.base.opn), .pv false (.sl (nums .u8 h.base.pend)), (iv h.base.act), .pv false (.sl (rws nP h.base.ents)), .pv false (.sl (rws eP h.evs)), (iv h.safe), (iv s.serial), (bv s.opn), .pv false (.sl (nums .u8 s.pend)), (iv s.act), .pv false (.sl (rws nP s.ents)), .nl, (iv 0), .nl, .nl, (bv false)])] = some ((bv false), [(0, .box [(iv h.base.serial), (bv h.base.opn), .pv false (.sl (nums .u8 h.base.pend)), (iv h.base.act), .pv false (.sl (rws nP h.base.ents)), .pv false (.sl (rws eP h.evs)), (iv h.safe), (iv s.serial), (bv s.opn), .pv false (.sl (nums .u8 s.pend)), (iv s.act), .pv false (.sl (rws nP s.ents)), .nl, (iv 0), .nl, .nl, (bv true)])]) := call0 Tryz.func87 (by kernel_rfl) ((show ∀ fn : Func, fn.results = #[.tmp 6] → lim C0 87 fn [.c (code Tryz.f87)] ⟨_, _⟩ = _ from fun fn hr => by
 have hp4 := plan87_4
 simp [opsOf, code, Tryz.f87] at hp4
 have hp6 := plan87_6
 simp [opsOf, code, Tryz.f87] at hp6
 have hp7 := plan87_7
 simp [opsOf, code, Tryz.f87] at hp7
 have c1 : (300 : Int) ≤ (h.evs.length : Nat) := by omega
 simp [code, Tryz.f87, hr, hp4, hp6, hp7, c1]
 ) Tryz.f87 Tryz.results87)
theorem p87_m (h : His) (s : Sta) (hs : SOk s) (hser : 0 ≤ s.serial ∧ s.serial ≤ 1000000) (hl : h.evs.length < 300) (hm : mayS s rst = false) : phi C0 (lim C0) 87 [.bp 0 0, .ag [(iv rst.kind), .pv false (.sl (nums .u8 rst.addr)), (iv rst.act), (iv rst.val.kind), (iv rst.val.n), .pv false (.sl (nums .u8 rst.val.s)), .pv false (.sl (rws byP rst.val.k)), .pv false (.sl (rws vP rst.val.l)), .pv false (.sl (rws byP rst.deps))], (bv true)] [(0, .box [(iv h.base.serial), (bv h.base.opn), .pv false (.sl (nums .u8 h.base.pend)), (iv h.base.act), .pv false (.sl (rws nP h.base.ents)), .pv false (.sl (rws eP h.evs)), (iv h.safe), (iv s.serial), (bv s.opn), .pv false (.sl (nums .u8 s.pend)), (iv s.act), .pv false (.sl (rws nP s.ents)), .nl, (iv 0), .nl, .nl, (bv false)])] = some ((bv false), [(0, .box [(iv h.base.serial), (bv h.base.opn), .pv false (.sl (nums .u8 h.base.pend)), (iv h.base.act), .pv false (.sl (rws nP h.base.ents)), .pv false (.sl (rws eP h.evs)), (iv h.safe), (iv s.serial), (bv s.opn), .pv false (.sl (nums .u8 s.pend)), (iv s.act), .pv false (.sl (rws nP s.ents)), .nl, (iv 0), .nl, .nl, (bv false)])]) := call0 Tryz.func87 (by kernel_rfl) ((show ∀ fn : Func, fn.results = #[.tmp 6] → lim C0 87 fn [.c (code Tryz.f87)] ⟨_, _⟩ = _ from fun fn hr => by
 have hp4 := plan87_4
 simp [opsOf, code, Tryz.f87] at hp4
 have hp6 := plan87_6
 simp [opsOf, code, Tryz.f87] at hp6
 have hp7 := plan87_7
 simp [opsOf, code, Tryz.f87] at hp7
 have c1 : ¬ (300 : Int) ≤ (h.evs.length : Nat) := by omega
 have q1 := p84 rst rst_ok
 have q2 := fun b0 => p122 s rst hs rst_ok rst_ev hser b0
 rw [rst_ev] at q1
 rw [hm] at q2
 simp [rst] at q1 q2
 simp [code, Tryz.f87, hr, hp4, hp6, hp7, c1, q1, q2, rst]
 ) Tryz.f87 Tryz.results87)
theorem p87_gn (h : His) (s : Sta) (hs : SOk s) (hser : 0 ≤ s.serial ∧ s.serial < 1000000) (hl : h.evs.length < 300) (hm : mayS s rst = true) (hp : s.pend = []) : phi C0 (lim C0) 87 [.bp 0 0, .ag [(iv rst.kind), .pv false (.sl (nums .u8 rst.addr)), (iv rst.act), (iv rst.val.kind), (iv rst.val.n), .pv false (.sl (nums .u8 rst.val.s)), .pv false (.sl (rws byP rst.val.k)), .pv false (.sl (rws vP rst.val.l)), .pv false (.sl (rws byP rst.deps))], (bv true)] [(0, .box [(iv h.base.serial), (bv h.base.opn), .pv false (.sl (nums .u8 h.base.pend)), (iv h.base.act), .pv false (.sl (rws nP h.base.ents)), .pv false (.sl (rws eP h.evs)), (iv h.safe), (iv s.serial), (bv s.opn), .pv false (.sl (nums .u8 s.pend)), (iv s.act), .pv false (.sl (rws nP s.ents)), .nl, (iv 0), .nl, .nl, (bv false)])] = some ((bv true), [(0, .box [(iv h.base.serial), (bv h.base.opn), .pv false (.sl (nums .u8 h.base.pend)), (iv h.base.act), .pv false (.sl (rws nP h.base.ents)), .ref 18 0 (h.evs.length + 1), (iv ((h.evs.length : Int) + 1)), (iv (s.serial + 1)), (bv false), .nl, (iv 0), .pv false (.sl (rws nP s.ents)), .nl, (iv 0), .nl, .nl, (bv false)]), (18, .row .own 126 9 (rws eP (h.evs ++ [rst])))]) := call0 Tryz.func87 (by kernel_rfl) ((show ∀ fn : Func, fn.results = #[.tmp 6] → lim C0 87 fn [.c (code Tryz.f87)] ⟨_, _⟩ = _ from fun fn hr => by
 have hp4 := plan87_4
 simp [opsOf, code, Tryz.f87] at hp4
 have hp6 := plan87_6
 simp [opsOf, code, Tryz.f87] at hp6
 have hp7 := plan87_7
 simp [opsOf, code, Tryz.f87] at hp7
 have c1 : ¬ (300 : Int) ≤ (h.evs.length : Nat) := by omega
 have q1 := p84 rst rst_ok
 have q2 := fun b0 => p122 s rst hs rst_ok rst_ev ⟨hser.1, by omega⟩ b0
 rw [rst_ev] at q1
 rw [hm] at q2
 have q3 := p123_gn h s hs hser hp
 have g1 : h.evs.length * 152 ≤ Pm.roomBytes := by unfold Pm.roomBytes; omega
 have g2 : h.evs.length ≤ Pm.maxL := by unfold Pm.maxL; omega
 have g3 : (∀ (r : List PV), r ∈ rws eP h.evs → r.length = 9) = True := eq_true (rws_all _ _ fun _ => by simp)
 have g4 : Spare 0 0 = False := by simp [Spare]
 have g5 : ∀ n : Nat, Spare n n = False := fun n => by simp [Spare]
 have m3 : (h.evs.length + 1) * 152 ≤ Pm.roomBytes := by unfold Pm.roomBytes; omega
 have m4 : h.evs.length + 1 ≤ Pm.maxL := by unfold Pm.maxL; omega
 simp [rst] at q1 q2 q3
 simp [code, Tryz.f87, hr, hp4, hp6, hp7, c1, q1, q2, q3, g1, g2, g3, g4, g5, m3, m4, rst]
 exact rws_app eP h.evs [rst]
 ) Tryz.f87 Tryz.results87)
theorem p87_ga (h : His) (s : Sta) (hs : SOk s) (hser : 0 ≤ s.serial ∧ s.serial < 1000000) (hl : h.evs.length < 300) (hm : mayS s rst = true) (hp : s.pend ≠ []) (j : Nat) (hj : fndN s.pend s.ents 0 = (j : Nat)) (x : En) (hx : s.ents[j]? = some x) : phi C0 (lim C0) 87 [.bp 0 0, .ag [(iv rst.kind), .pv false (.sl (nums .u8 rst.addr)), (iv rst.act), (iv rst.val.kind), (iv rst.val.n), .pv false (.sl (nums .u8 rst.val.s)), .pv false (.sl (rws byP rst.val.k)), .pv false (.sl (rws vP rst.val.l)), .pv false (.sl (rws byP rst.deps))], (bv true)] [(0, .box [(iv h.base.serial), (bv h.base.opn), .pv false (.sl (nums .u8 h.base.pend)), (iv h.base.act), .pv false (.sl (rws nP h.base.ents)), .pv false (.sl (rws eP h.evs)), (iv h.safe), (iv s.serial), (bv s.opn), .pv false (.sl (nums .u8 s.pend)), (iv s.act), .pv false (.sl (rws nP s.ents)), .nl, (iv 0), .nl, .nl, (bv false)])] = some ((bv true), [(0, .box [(iv h.base.serial), (bv h.base.opn), .pv false (.sl (nums .u8 h.base.pend)), (iv h.base.act), .pv false (.sl (rws nP h.base.ents)), .ref 18 0 (h.evs.length + 1), (iv ((h.evs.length : Int) + 1)), (iv (s.serial + 1)), (bv false), .nl, (iv 0), .ref 20 0 (s.ents.set j (tntE (s.serial + 1) x)).length, .nl, (iv 0), .nl, .nl, (bv false)]), (18, .row .own 126 9 (rws eP (h.evs ++ [rst]))), (20, .row .own 162 9 (rws nP (s.ents.set j (tntE (s.serial + 1) x))))]) := call0 Tryz.func87 (by kernel_rfl) ((show ∀ fn : Func, fn.results = #[.tmp 6] → lim C0 87 fn [.c (code Tryz.f87)] ⟨_, _⟩ = _ from fun fn hr => by
 have hp4 := plan87_4
 simp [opsOf, code, Tryz.f87] at hp4
 have hp6 := plan87_6
 simp [opsOf, code, Tryz.f87] at hp6
 have hp7 := plan87_7
 simp [opsOf, code, Tryz.f87] at hp7
 have c1 : ¬ (300 : Int) ≤ (h.evs.length : Nat) := by omega
 have q1 := p84 rst rst_ok
 have q2 := fun b0 => p122 s rst hs rst_ok rst_ev ⟨hser.1, by omega⟩ b0
 rw [rst_ev] at q1
 rw [hm] at q2
 have q3 := p123_ga h s hs hser hp j hj x hx
 have g1 : h.evs.length * 152 ≤ Pm.roomBytes := by unfold Pm.roomBytes; omega
 have g2 : h.evs.length ≤ Pm.maxL := by unfold Pm.maxL; omega
 have g3 : (∀ (r : List PV), r ∈ rws eP h.evs → r.length = 9) = True := eq_true (rws_all _ _ fun _ => by simp)
 have g4 : Spare 0 0 = False := by simp [Spare]
 have g5 : ∀ n : Nat, Spare n n = False := fun n => by simp [Spare]
 have m3 : (h.evs.length + 1) * 152 ≤ Pm.roomBytes := by unfold Pm.roomBytes; omega
 have m4 : h.evs.length + 1 ≤ Pm.maxL := by unfold Pm.maxL; omega
 simp [rst] at q1 q2 q3
 simp [code, Tryz.f87, hr, hp4, hp6, hp7, c1, q1, q2, q3, g1, g2, g3, g4, g5, m3, m4, rst]
 exact rws_app eP h.evs [rst]
 ) Tryz.f87 Tryz.results87)
theorem p87_gb (h : His) (s : Sta) (hs : SOk s) (hser : 0 ≤ s.serial ∧ s.serial < 1000000) (hl : h.evs.length < 300) (hm : mayS s rst = true) (hp : s.pend ≠ []) (hf : ¬ 0 ≤ fndN s.pend s.ents 0) : phi C0 (lim C0) 87 [.bp 0 0, .ag [(iv rst.kind), .pv false (.sl (nums .u8 rst.addr)), (iv rst.act), (iv rst.val.kind), (iv rst.val.n), .pv false (.sl (nums .u8 rst.val.s)), .pv false (.sl (rws byP rst.val.k)), .pv false (.sl (rws vP rst.val.l)), .pv false (.sl (rws byP rst.deps))], (bv true)] [(0, .box [(iv h.base.serial), (bv h.base.opn), .pv false (.sl (nums .u8 h.base.pend)), (iv h.base.act), .pv false (.sl (rws nP h.base.ents)), .pv false (.sl (rws eP h.evs)), (iv h.safe), (iv s.serial), (bv s.opn), .pv false (.sl (nums .u8 s.pend)), (iv s.act), .pv false (.sl (rws nP s.ents)), .nl, (iv 0), .nl, .nl, (bv false)])] = some ((bv true), [(0, .box [(iv h.base.serial), (bv h.base.opn), .pv false (.sl (nums .u8 h.base.pend)), (iv h.base.act), .pv false (.sl (rws nP h.base.ents)), .ref 18 0 (h.evs.length + 1), (iv ((h.evs.length : Int) + 1)), (iv (s.serial + 1)), (bv false), .nl, (iv 0), .ref 20 0 (putL ⟨s.pend, .mk 5 0 [] [] [], [], true, s.serial + 1⟩ false s.ents).length, .nl, (iv 0), .nl, .nl, (bv false)]), (18, .row .own 126 9 (rws eP (h.evs ++ [rst]))), (20, .row .own 162 9 (rws nP (putL ⟨s.pend, .mk 5 0 [] [] [], [], true, s.serial + 1⟩ false s.ents)))]) := call0 Tryz.func87 (by kernel_rfl) ((show ∀ fn : Func, fn.results = #[.tmp 6] → lim C0 87 fn [.c (code Tryz.f87)] ⟨_, _⟩ = _ from fun fn hr => by
 have hp4 := plan87_4
 simp [opsOf, code, Tryz.f87] at hp4
 have hp6 := plan87_6
 simp [opsOf, code, Tryz.f87] at hp6
 have hp7 := plan87_7
 simp [opsOf, code, Tryz.f87] at hp7
 have c1 : ¬ (300 : Int) ≤ (h.evs.length : Nat) := by omega
 have q1 := p84 rst rst_ok
 have q2 := fun b0 => p122 s rst hs rst_ok rst_ev ⟨hser.1, by omega⟩ b0
 rw [rst_ev] at q1
 rw [hm] at q2
 have q3 := p123_gb h s hs hser hp hf
 have g1 : h.evs.length * 152 ≤ Pm.roomBytes := by unfold Pm.roomBytes; omega
 have g2 : h.evs.length ≤ Pm.maxL := by unfold Pm.maxL; omega
 have g3 : (∀ (r : List PV), r ∈ rws eP h.evs → r.length = 9) = True := eq_true (rws_all _ _ fun _ => by simp)
 have g4 : Spare 0 0 = False := by simp [Spare]
 have g5 : ∀ n : Nat, Spare n n = False := fun n => by simp [Spare]
 have m3 : (h.evs.length + 1) * 152 ≤ Pm.roomBytes := by unfold Pm.roomBytes; omega
 have m4 : h.evs.length + 1 ≤ Pm.maxL := by unfold Pm.maxL; omega
 simp [rst] at q1 q2 q3
 simp [code, Tryz.f87, hr, hp4, hp6, hp7, c1, q1, q2, q3, g1, g2, g3, g4, g5, m3, m4, rst]
 exact rws_app eP h.evs [rst]
 ) Tryz.f87 Tryz.results87)
def lastS (h : His) : Sta := (foldE h.base h.evs).1
theorem foldE_inv : ∀ (l : List Ev) (s : Sta), InvS s → SOk s → s.ents.length + l.length < 1048576 → (∀ e ∈ l, EOk e) → InvS (foldE s l).1 ∧ SOk (foldE s l).1
 | [], s, h1, h2, _, _ => ⟨h1, h2⟩
 | e :: l, s, h1, h2, h3, h4 => by
  rw [foldE]
  cases hm : mayS s e with
  | false => exact ⟨h1, h2⟩
  | true =>
   have := doS_len s e
   simp only [List.length_cons] at h3
   exact foldE_inv l _ (doS_inv h1 hm) (doS_ok h2 (h4 e (List.mem_cons_self ..)) (by omega)) (by omega) fun x hx => h4 x (List.mem_cons_of_mem _ hx)
theorem hisB_parts {h : His} (hb : hisB h = true) : stB h.base = true ∧ h.evs.length ≤ 300 ∧ allE h.evs = true ∧ okF h.base h.evs = true := by
 unfold hisB at hb
 rw [okS_is, allE_is] at hb
 simp only [Bool.and_eq_true, decide_eq_true_eq] at hb
 exact ⟨hb.1, hb.2.1, hb.2.2.2.1, hb.2.2.2.2⟩
theorem lastS_ok {h : His} (ho : HOk h) (hb : hisB h = true) : InvS (lastS h) ∧ SOk (lastS h) := by
 obtain ⟨h1, h2, _⟩ := hisB_parts hb
 have hl : h.base.ents.length ≤ 16 := by simp only [stB, Bool.and_eq_true, decide_eq_true_eq] at h1; exact h1.1.1.2
 exact foldE_inv _ _ (stB_inv h1) ho.base (by omega) ho.all
theorem p43 (h : His) (ho : HOk h) (hb : hisB h = true) (s : Sta) (hs : lastS h = s) : phi C0 (lim C0) 43 [.ag [(iv h.base.serial), (bv h.base.opn), .pv false (.sl (nums .u8 h.base.pend)), (iv h.base.act), .pv false (.sl (rws nP h.base.ents)), .pv false (.sl (rws eP h.evs)), (iv h.safe)]] [] = some (.bp 16 0, [(16, .box [(iv h.base.serial), (bv h.base.opn), .pv false (.sl (nums .u8 h.base.pend)), (iv h.base.act), .pv false (.sl (rws nP h.base.ents)), .pv false (.sl (rws eP h.evs)), (iv h.safe), (iv s.serial), (bv s.opn), .pv false (.sl (nums .u8 s.pend)), (iv s.act), .pv false (.sl (rws nP s.ents)), .nl, (iv 0), .nl, .nl, (bv false)])]) := call0 Tryz.func43 (by kernel_rfl) ((show ∀ fn : Func, fn.results = #[.tmp 2] → lim C0 43 fn [.c (code Tryz.f43)] ⟨_, _⟩ = _ from fun fn hr => by
 have hp1 := plan43_1
 simp [opsOf, code, Tryz.f43] at hp1
 have hp2 := plan43_2
 simp [opsOf, code, Tryz.f43] at hp2
 obtain ⟨h1, h2, h3, h4⟩ := hisB_parts hb
 have q1 := p85 h ho h1 (allE_mem h3) h2
 have hk := (lastS_ok ho hb).2
 unfold lastS at hs
 rw [foldE_ok, h4, hs] at q1
 rw [show lastS h = s from hs] at hk
 have q2 := p86 s hk
 simp [code, Tryz.f43, hr, hp1, hp2, q1, q2]
 ) Tryz.f43 Tryz.results43)
theorem p44_c (h : His) (s : Sta) (ho : s.opn = false) : phi C0 (lim C0) 44 [.bp 0 0] [(0, .box [(iv h.base.serial), (bv h.base.opn), .pv false (.sl (nums .u8 h.base.pend)), (iv h.base.act), .pv false (.sl (rws nP h.base.ents)), .pv false (.sl (rws eP h.evs)), (iv h.safe), (iv s.serial), (bv s.opn), .pv false (.sl (nums .u8 s.pend)), (iv s.act), .pv false (.sl (rws nP s.ents)), .nl, (iv 0), .nl, .nl, (bv false)])] = some (.tu [], [(0, .box [(iv h.base.serial), (bv h.base.opn), .pv false (.sl (nums .u8 h.base.pend)), (iv h.base.act), .pv false (.sl (rws nP h.base.ents)), .pv false (.sl (rws eP h.evs)), (iv h.safe), (iv s.serial), (bv s.opn), .pv false (.sl (nums .u8 s.pend)), (iv s.act), .pv false (.sl (rws nP s.ents)), .nl, (iv 0), .nl, .nl, (bv false)])]) := call0 Tryz.func44 (by kernel_rfl) ((show ∀ fn : Func, fn.results = #[] → lim C0 44 fn [.c (code Tryz.f44)] ⟨_, _⟩ = _ from fun fn hr => by
 simp [code, Tryz.f44, hr, ho]
 ) Tryz.f44 Tryz.results44)
theorem p44_f (h : His) (s : Sta) (hs : SOk s) (hser : 0 ≤ s.serial ∧ s.serial ≤ 1000000) (hl : 300 ≤ h.evs.length) (hl2 : h.evs.length ≤ 1048576) (ho : s.opn = true) : phi C0 (lim C0) 44 [.bp 0 0] [(0, .box [(iv h.base.serial), (bv h.base.opn), .pv false (.sl (nums .u8 h.base.pend)), (iv h.base.act), .pv false (.sl (rws nP h.base.ents)), .pv false (.sl (rws eP h.evs)), (iv h.safe), (iv s.serial), (bv s.opn), .pv false (.sl (nums .u8 s.pend)), (iv s.act), .pv false (.sl (rws nP s.ents)), .nl, (iv 0), .nl, .nl, (bv false)])] = some (.tu [], [(0, .box [(iv h.base.serial), (bv h.base.opn), .pv false (.sl (nums .u8 h.base.pend)), (iv h.base.act), .pv false (.sl (rws nP h.base.ents)), .pv false (.sl (rws eP h.evs)), (iv h.safe), (iv s.serial), (bv s.opn), .pv false (.sl (nums .u8 s.pend)), (iv s.act), .pv false (.sl (rws nP s.ents)), .nl, (iv 0), .nl, .nl, (bv true)])]) := call0 Tryz.func44 (by kernel_rfl) ((show ∀ fn : Func, fn.results = #[] → lim C0 44 fn [.c (code Tryz.f44)] ⟨_, _⟩ = _ from fun fn hr => by
 have q := p87_f h s hs hser hl hl2
 simp [rst, ho, Val.kind, Val.n, Val.s, Val.k, Val.l] at q
 simp [code, Tryz.f44, hr, ho, q, rst]
 ) Tryz.f44 Tryz.results44)
theorem p44_m (h : His) (s : Sta) (hs : SOk s) (hser : 0 ≤ s.serial ∧ s.serial ≤ 1000000) (hl : h.evs.length < 300) (hm : mayS s rst = false) (ho : s.opn = true) : phi C0 (lim C0) 44 [.bp 0 0] [(0, .box [(iv h.base.serial), (bv h.base.opn), .pv false (.sl (nums .u8 h.base.pend)), (iv h.base.act), .pv false (.sl (rws nP h.base.ents)), .pv false (.sl (rws eP h.evs)), (iv h.safe), (iv s.serial), (bv s.opn), .pv false (.sl (nums .u8 s.pend)), (iv s.act), .pv false (.sl (rws nP s.ents)), .nl, (iv 0), .nl, .nl, (bv false)])] = some (.tu [], [(0, .box [(iv h.base.serial), (bv h.base.opn), .pv false (.sl (nums .u8 h.base.pend)), (iv h.base.act), .pv false (.sl (rws nP h.base.ents)), .pv false (.sl (rws eP h.evs)), (iv h.safe), (iv s.serial), (bv s.opn), .pv false (.sl (nums .u8 s.pend)), (iv s.act), .pv false (.sl (rws nP s.ents)), .nl, (iv 0), .nl, .nl, (bv false)])]) := call0 Tryz.func44 (by kernel_rfl) ((show ∀ fn : Func, fn.results = #[] → lim C0 44 fn [.c (code Tryz.f44)] ⟨_, _⟩ = _ from fun fn hr => by
 have q := p87_m h s hs hser hl hm
 simp [rst, ho, Val.kind, Val.n, Val.s, Val.k, Val.l] at q
 simp [code, Tryz.f44, hr, ho, q, rst]
 ) Tryz.f44 Tryz.results44)
theorem p44_gn (h : His) (s : Sta) (hs : SOk s) (hser : 0 ≤ s.serial ∧ s.serial < 1000000) (hl : h.evs.length < 300) (hm : mayS s rst = true) (hp : s.pend = []) (ho : s.opn = true) : phi C0 (lim C0) 44 [.bp 0 0] [(0, .box [(iv h.base.serial), (bv h.base.opn), .pv false (.sl (nums .u8 h.base.pend)), (iv h.base.act), .pv false (.sl (rws nP h.base.ents)), .pv false (.sl (rws eP h.evs)), (iv h.safe), (iv s.serial), (bv s.opn), .pv false (.sl (nums .u8 s.pend)), (iv s.act), .pv false (.sl (rws nP s.ents)), .nl, (iv 0), .nl, .nl, (bv false)])] = some (.tu [], [(0, .box [(iv h.base.serial), (bv h.base.opn), .pv false (.sl (nums .u8 h.base.pend)), (iv h.base.act), .pv false (.sl (rws nP h.base.ents)), .ref 18 0 (h.evs.length + 1), (iv ((h.evs.length : Int) + 1)), (iv (s.serial + 1)), (bv false), .nl, (iv 0), .pv false (.sl (rws nP s.ents)), .nl, (iv 0), .nl, .nl, (bv false)]), (18, .row .own 126 9 (rws eP (h.evs ++ [rst])))]) := call0 Tryz.func44 (by kernel_rfl) ((show ∀ fn : Func, fn.results = #[] → lim C0 44 fn [.c (code Tryz.f44)] ⟨_, _⟩ = _ from fun fn hr => by
 have q := p87_gn h s hs hser hl hm hp
 simp [rst, ho, Val.kind, Val.n, Val.s, Val.k, Val.l] at q
 simp [code, Tryz.f44, hr, ho, q, rst]
 ) Tryz.f44 Tryz.results44)
theorem p44_ga (h : His) (s : Sta) (hs : SOk s) (hser : 0 ≤ s.serial ∧ s.serial < 1000000) (hl : h.evs.length < 300) (hm : mayS s rst = true) (hp : s.pend ≠ []) (j : Nat) (hj : fndN s.pend s.ents 0 = (j : Nat)) (x : En) (hx : s.ents[j]? = some x) (ho : s.opn = true) : phi C0 (lim C0) 44 [.bp 0 0] [(0, .box [(iv h.base.serial), (bv h.base.opn), .pv false (.sl (nums .u8 h.base.pend)), (iv h.base.act), .pv false (.sl (rws nP h.base.ents)), .pv false (.sl (rws eP h.evs)), (iv h.safe), (iv s.serial), (bv s.opn), .pv false (.sl (nums .u8 s.pend)), (iv s.act), .pv false (.sl (rws nP s.ents)), .nl, (iv 0), .nl, .nl, (bv false)])] = some (.tu [], [(0, .box [(iv h.base.serial), (bv h.base.opn), .pv false (.sl (nums .u8 h.base.pend)), (iv h.base.act), .pv false (.sl (rws nP h.base.ents)), .ref 18 0 (h.evs.length + 1), (iv ((h.evs.length : Int) + 1)), (iv (s.serial + 1)), (bv false), .nl, (iv 0), .ref 20 0 (s.ents.set j (tntE (s.serial + 1) x)).length, .nl, (iv 0), .nl, .nl, (bv false)]), (18, .row .own 126 9 (rws eP (h.evs ++ [rst]))), (20, .row .own 162 9 (rws nP (s.ents.set j (tntE (s.serial + 1) x))))]) := call0 Tryz.func44 (by kernel_rfl) ((show ∀ fn : Func, fn.results = #[] → lim C0 44 fn [.c (code Tryz.f44)] ⟨_, _⟩ = _ from fun fn hr => by
 have q := p87_ga h s hs hser hl hm hp j hj x hx
 simp [rst, ho, Val.kind, Val.n, Val.s, Val.k, Val.l] at q
 simp [code, Tryz.f44, hr, ho, q, rst]
 ) Tryz.f44 Tryz.results44)
theorem p44_gb (h : His) (s : Sta) (hs : SOk s) (hser : 0 ≤ s.serial ∧ s.serial < 1000000) (hl : h.evs.length < 300) (hm : mayS s rst = true) (hp : s.pend ≠ []) (hf : ¬ 0 ≤ fndN s.pend s.ents 0) (ho : s.opn = true) : phi C0 (lim C0) 44 [.bp 0 0] [(0, .box [(iv h.base.serial), (bv h.base.opn), .pv false (.sl (nums .u8 h.base.pend)), (iv h.base.act), .pv false (.sl (rws nP h.base.ents)), .pv false (.sl (rws eP h.evs)), (iv h.safe), (iv s.serial), (bv s.opn), .pv false (.sl (nums .u8 s.pend)), (iv s.act), .pv false (.sl (rws nP s.ents)), .nl, (iv 0), .nl, .nl, (bv false)])] = some (.tu [], [(0, .box [(iv h.base.serial), (bv h.base.opn), .pv false (.sl (nums .u8 h.base.pend)), (iv h.base.act), .pv false (.sl (rws nP h.base.ents)), .ref 18 0 (h.evs.length + 1), (iv ((h.evs.length : Int) + 1)), (iv (s.serial + 1)), (bv false), .nl, (iv 0), .ref 20 0 (putL ⟨s.pend, .mk 5 0 [] [] [], [], true, s.serial + 1⟩ false s.ents).length, .nl, (iv 0), .nl, .nl, (bv false)]), (18, .row .own 126 9 (rws eP (h.evs ++ [rst]))), (20, .row .own 162 9 (rws nP (putL ⟨s.pend, .mk 5 0 [] [] [], [], true, s.serial + 1⟩ false s.ents)))]) := call0 Tryz.func44 (by kernel_rfl) ((show ∀ fn : Func, fn.results = #[] → lim C0 44 fn [.c (code Tryz.f44)] ⟨_, _⟩ = _ from fun fn hr => by
 have q := p87_gb h s hs hser hl hm hp hf
 simp [rst, ho, Val.kind, Val.n, Val.s, Val.k, Val.l] at q
 simp [code, Tryz.f44, hr, ho, q, rst]
 ) Tryz.f44 Tryz.results44)
@[simp] theorem rst_kind : rst.kind = 6 := rfl
@[simp] theorem rst_addr : rst.addr = [] := rfl
@[simp] theorem rst_act : rst.act = 0 := rfl
@[simp] theorem rst_vkind : rst.val.kind = 0 := rfl
@[simp] theorem rst_vn : rst.val.n = 0 := rfl
@[simp] theorem rst_vs : rst.val.s = [] := rfl
@[simp] theorem rst_vk : rst.val.k = [] := rfl
@[simp] theorem rst_vl : rst.val.l = [] := rfl
@[simp] theorem rst_deps : rst.deps = [] := rfl
end Go.Proofs.YtgbfmdihmnpcdaaGreatDoor
