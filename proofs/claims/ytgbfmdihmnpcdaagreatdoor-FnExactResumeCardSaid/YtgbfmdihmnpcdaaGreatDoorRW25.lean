/- What an event does to a state, by the reference. -/
import Derived.Test.YtgbfmdihmnpcdaaGreatDoorRW22
namespace Go.Proofs.YtgbfmdihmnpcdaaGreatDoor
open Go Go.Pm Go.Proofs
set_option linter.unusedVariables false
set_option linter.unusedSimpArgs false
set_option maxRecDepth 100000
set_option maxHeartbeats 4000000
theorem nP_allQ (l : List En) : ∀ r ∈ rws nP l, r.length = 9 := rws_all _ _ fun x => by simp
theorem nP_setQ (l : List En) (x : En) (i : Nat) : (rws nP l).set i [.sl (nums .u8 x.addr), .sc (.int .i64 x.val.kind), .sc (.int .i64 x.val.n), .sl (nums .u8 x.val.s), .sl (rws byP x.val.k), .sl (rws vP x.val.l), .sl (rws byP x.deps), .sc (.bool x.taint), .sc (.int .i64 x.turned)] = rws nP (l.set i x) := by
 have h := rws_set nP l i x
 rw [nP_eq] at h
 exact h
theorem p123_0d (s : Sta) (e : Ev) (hs : SOk s) (he : EOk e) (hser : 0 ≤ s.serial ∧ s.serial < 1000000) (k : e.kind = 0) : phi C0 (lim C0) 123 [.bp 0 0, .ag [(iv e.kind), .pv false (.sl (nums .u8 e.addr)), (iv e.act), (iv e.val.kind), (iv e.val.n), .pv false (.sl (nums .u8 e.val.s)), .pv false (.sl (rws byP e.val.k)), .pv false (.sl (rws vP e.val.l)), .pv false (.sl (rws byP e.deps))]] [(0, .box [(iv s.serial), (bv s.opn), .pv false (.sl (nums .u8 s.pend)), (iv s.act), .pv false (.sl (rws nP s.ents))])] = some (.tu [], [(0, .box [(iv (s.serial + 1)), (bv true), .pv false (.sl (nums .u8 s.pend)), (iv s.act), .pv false (.sl (rws nP s.ents))])]) := call0 Tryz.func123 (by kernel_rfl) ((show ∀ fn : Func, fn.results = #[] → lim C0 123 fn [.c (code Tryz.f123)] ⟨_, _⟩ = _ from fun fn hr => by
 have hp2 := plan123_2
 simp [opsOf, code, Tryz.f123] at hp2
 have hp10 := plan123_10
 simp [opsOf, code, Tryz.f123] at hp10
 have hp12 := plan123_12
 simp [opsOf, code, Tryz.f123] at hp12
 have hp19 := plan123_19
 simp [opsOf, code, Tryz.f123] at hp19
 have hp21 := plan123_21
 simp [opsOf, code, Tryz.f123] at hp21
 have q1 := fun b b0 => p118 ⟨s.serial + 1, s.opn, s.pend, s.act, s.ents⟩ s.pend b ⟨hs.pend, hs.pendB, hs.ents, hs.all⟩ hs.pendB b0
 dsimp only at q1
 have hw : IntKind.i64.wrap (s.serial + 1) = s.serial + 1 := wrap_id' (by omega)
 have hall : ∀ x ∈ s.ents, byteOk x.addr = true := fun x hx => (hs.all x hx).addrB
 generalize fndN _ s.ents 0 = fd at *
 simp [code, Tryz.f123, hr, hp2, hp10, hp12, hp19, hp21, q1, hw, k]
 ) Tryz.f123 Tryz.results123)
theorem p123_1d (s : Sta) (e : Ev) (hs : SOk s) (he : EOk e) (hser : 0 ≤ s.serial ∧ s.serial < 1000000) (k : e.kind = 1) : phi C0 (lim C0) 123 [.bp 0 0, .ag [(iv e.kind), .pv false (.sl (nums .u8 e.addr)), (iv e.act), (iv e.val.kind), (iv e.val.n), .pv false (.sl (nums .u8 e.val.s)), .pv false (.sl (rws byP e.val.k)), .pv false (.sl (rws vP e.val.l)), .pv false (.sl (rws byP e.deps))]] [(0, .box [(iv s.serial), (bv s.opn), .pv false (.sl (nums .u8 s.pend)), (iv s.act), .pv false (.sl (rws nP s.ents))])] = some (.tu [], [(0, .box [(iv (s.serial + 1)), (bv s.opn), .pv false (.sl (nums .u8 e.addr)), (iv e.act), .pv false (.sl (rws nP s.ents))])]) := call0 Tryz.func123 (by kernel_rfl) ((show ∀ fn : Func, fn.results = #[] → lim C0 123 fn [.c (code Tryz.f123)] ⟨_, _⟩ = _ from fun fn hr => by
 have hp2 := plan123_2
 simp [opsOf, code, Tryz.f123] at hp2
 have hp10 := plan123_10
 simp [opsOf, code, Tryz.f123] at hp10
 have hp12 := plan123_12
 simp [opsOf, code, Tryz.f123] at hp12
 have hp19 := plan123_19
 simp [opsOf, code, Tryz.f123] at hp19
 have hp21 := plan123_21
 simp [opsOf, code, Tryz.f123] at hp21
 have q1 := fun b b0 => p118 ⟨s.serial + 1, s.opn, s.pend, s.act, s.ents⟩ s.pend b ⟨hs.pend, hs.pendB, hs.ents, hs.all⟩ hs.pendB b0
 dsimp only at q1
 have hw : IntKind.i64.wrap (s.serial + 1) = s.serial + 1 := wrap_id' (by omega)
 have hall : ∀ x ∈ s.ents, byteOk x.addr = true := fun x hx => (hs.all x hx).addrB
 generalize fndN _ s.ents 0 = fd at *
 simp [code, Tryz.f123, hr, hp2, hp10, hp12, hp19, hp21, q1, hw, k]
 ) Tryz.f123 Tryz.results123)
theorem p123_5d (s : Sta) (e : Ev) (hs : SOk s) (he : EOk e) (hser : 0 ≤ s.serial ∧ s.serial < 1000000) (k : e.kind = 5) : phi C0 (lim C0) 123 [.bp 0 0, .ag [(iv e.kind), .pv false (.sl (nums .u8 e.addr)), (iv e.act), (iv e.val.kind), (iv e.val.n), .pv false (.sl (nums .u8 e.val.s)), .pv false (.sl (rws byP e.val.k)), .pv false (.sl (rws vP e.val.l)), .pv false (.sl (rws byP e.deps))]] [(0, .box [(iv s.serial), (bv s.opn), .pv false (.sl (nums .u8 s.pend)), (iv s.act), .pv false (.sl (rws nP s.ents))])] = some (.tu [], [(0, .box [(iv (s.serial + 1)), (bv false), .nl, (iv 0), .pv false (.sl (rws nP s.ents))])]) := call0 Tryz.func123 (by kernel_rfl) ((show ∀ fn : Func, fn.results = #[] → lim C0 123 fn [.c (code Tryz.f123)] ⟨_, _⟩ = _ from fun fn hr => by
 have hp2 := plan123_2
 simp [opsOf, code, Tryz.f123] at hp2
 have hp10 := plan123_10
 simp [opsOf, code, Tryz.f123] at hp10
 have hp12 := plan123_12
 simp [opsOf, code, Tryz.f123] at hp12
 have hp19 := plan123_19
 simp [opsOf, code, Tryz.f123] at hp19
 have hp21 := plan123_21
 simp [opsOf, code, Tryz.f123] at hp21
 have q1 := fun b b0 => p118 ⟨s.serial + 1, s.opn, s.pend, s.act, s.ents⟩ s.pend b ⟨hs.pend, hs.pendB, hs.ents, hs.all⟩ hs.pendB b0
 dsimp only at q1
 have hw : IntKind.i64.wrap (s.serial + 1) = s.serial + 1 := wrap_id' (by omega)
 have hall : ∀ x ∈ s.ents, byteOk x.addr = true := fun x hx => (hs.all x hx).addrB
 generalize fndN _ s.ents 0 = fd at *
 simp [code, Tryz.f123, hr, hp2, hp10, hp12, hp19, hp21, q1, hw, k]
 ) Tryz.f123 Tryz.results123)
theorem p123_2d (s : Sta) (e : Ev) (hs : SOk s) (he : EOk e) (hser : 0 ≤ s.serial ∧ s.serial < 1000000) (k : e.kind = 2) : phi C0 (lim C0) 123 [.bp 0 0, .ag [(iv e.kind), .pv false (.sl (nums .u8 e.addr)), (iv e.act), (iv e.val.kind), (iv e.val.n), .pv false (.sl (nums .u8 e.val.s)), .pv false (.sl (rws byP e.val.k)), .pv false (.sl (rws vP e.val.l)), .pv false (.sl (rws byP e.deps))]] [(0, .box [(iv s.serial), (bv s.opn), .pv false (.sl (nums .u8 s.pend)), (iv s.act), .pv false (.sl (rws nP s.ents))])] = some (.tu [], [(0, .box [(iv (s.serial + 1)), (bv s.opn), .nl, (iv 0), .ref 18 0 (putL ⟨e.addr, e.val, e.deps, false, s.serial + 1⟩ false s.ents).length]), (18, .row .own 162 9 (rws nP (putL ⟨e.addr, e.val, e.deps, false, s.serial + 1⟩ false s.ents)))]) := call0 Tryz.func123 (by kernel_rfl) ((show ∀ fn : Func, fn.results = #[] → lim C0 123 fn [.c (code Tryz.f123)] ⟨_, _⟩ = _ from fun fn hr => by
 have hp2 := plan123_2
 simp [opsOf, code, Tryz.f123] at hp2
 have hp10 := plan123_10
 simp [opsOf, code, Tryz.f123] at hp10
 have hp12 := plan123_12
 simp [opsOf, code, Tryz.f123] at hp12
 have hp19 := plan123_19
 simp [opsOf, code, Tryz.f123] at hp19
 have hp21 := plan123_21
 simp [opsOf, code, Tryz.f123] at hp21
 have q1 := fun b b0 => p118 ⟨s.serial + 1, s.opn, s.pend, s.act, s.ents⟩ s.pend b ⟨hs.pend, hs.pendB, hs.ents, hs.all⟩ hs.pendB b0
 dsimp only at q1
 have hw : IntKind.i64.wrap (s.serial + 1) = s.serial + 1 := wrap_id' (by omega)
 have hall : ∀ x ∈ s.ents, byteOk x.addr = true := fun x hx => (hs.all x hx).addrB
 have q2 := fun b => p152 b s.ents ⟨e.addr, e.val, e.deps, false, s.serial + 1⟩ hs.ents he.addrB hall
 dsimp only at q2
 generalize fndN _ s.ents 0 = fd at *
 simp [code, Tryz.f123, hr, hp2, hp10, hp12, hp19, hp21, q1, q2, hw, k]
 ) Tryz.f123 Tryz.results123)
theorem p123_3d (s : Sta) (e : Ev) (hs : SOk s) (he : EOk e) (hser : 0 ≤ s.serial ∧ s.serial < 1000000) (k : e.kind = 3) (j : Nat) (hj : fndN s.pend s.ents 0 = (j : Nat)) (hjl : j < s.ents.length) : phi C0 (lim C0) 123 [.bp 0 0, .ag [(iv e.kind), .pv false (.sl (nums .u8 e.addr)), (iv e.act), (iv e.val.kind), (iv e.val.n), .pv false (.sl (nums .u8 e.val.s)), .pv false (.sl (rws byP e.val.k)), .pv false (.sl (rws vP e.val.l)), .pv false (.sl (rws byP e.deps))]] [(0, .box [(iv s.serial), (bv s.opn), .pv false (.sl (nums .u8 s.pend)), (iv s.act), .pv false (.sl (rws nP s.ents))])] = some (.tu [], [(0, .box [(iv (s.serial + 1)), (bv s.opn), .nl, (iv 0), .ref 18 0 (s.ents.eraseIdx j).length]), (18, .row .own 162 9 (rws nP (s.ents.eraseIdx j)))]) := call0 Tryz.func123 (by kernel_rfl) ((show ∀ fn : Func, fn.results = #[] → lim C0 123 fn [.c (code Tryz.f123)] ⟨_, _⟩ = _ from fun fn hr => by
 have hp2 := plan123_2
 simp [opsOf, code, Tryz.f123] at hp2
 have hp10 := plan123_10
 simp [opsOf, code, Tryz.f123] at hp10
 have hp12 := plan123_12
 simp [opsOf, code, Tryz.f123] at hp12
 have hp19 := plan123_19
 simp [opsOf, code, Tryz.f123] at hp19
 have hp21 := plan123_21
 simp [opsOf, code, Tryz.f123] at hp21
 have q1 := fun b b0 => p118 ⟨s.serial + 1, s.opn, s.pend, s.act, s.ents⟩ s.pend b ⟨hs.pend, hs.pendB, hs.ents, hs.all⟩ hs.pendB b0
 dsimp only at q1
 have hw : IntKind.i64.wrap (s.serial + 1) = s.serial + 1 := wrap_id' (by omega)
 have hall : ∀ x ∈ s.ents, byteOk x.addr = true := fun x hx => (hs.all x hx).addrB
 rw [hj] at q1
 have hl := hs.ents
 have c1 : j ≤ s.ents.length := by omega
 have c2 : (∀ (r : List PV), r ∈ rws nP s.ents → r.length = 9) = True := eq_true (nP_allQ _)
 have c3 : (∀ (r : List PV), r ∈ rws nP (List.take j s.ents) → r.length = 9) = True := eq_true (nP_allQ _)
 have c4 : (∀ (r : List PV), r ∈ rws nP (List.drop (j + 1) s.ents) → r.length = 9) = True := eq_true (nP_allQ _)
 have c5 : j * 152 ≤ Pm.roomBytes := by unfold Pm.roomBytes; omega
 have c6 : j ≤ Pm.maxL := by unfold Pm.maxL; omega
 have c7 : IntKind.i64.wrap ((j : Int) + 1) = j + 1 := wrap_id' (by omega)
 have c8 : j + 1 ≤ s.ents.length := by omega
 have c9 : ((j : Int) + 1).toNat = j + 1 := by omega
 have c10 : (0 : Int) ≤ (j : Int) + 1 := by omega
 have c11 : (j : Int) + 1 ≤ (s.ents.length : Int) := by omega
 have c12 : min j s.ents.length = j := by omega
 have c13 : (j + (s.ents.length - (j + 1))) * 152 ≤ Pm.roomBytes := by unfold Pm.roomBytes; omega
 have c14 : j + (s.ents.length - (j + 1)) ≤ Pm.maxL := by unfold Pm.maxL; omega
 have c15 : List.take (s.ents.length - (j + 1)) (List.drop (j + 1) s.ents) = List.drop (j + 1) s.ents := List.take_of_length_le (by simp)
 have c16 : j + 1 + (s.ents.length - (j + 1)) ≤ s.ents.length := by omega
 have c17 : Spare j j = False := eq_false (Nat.lt_irrefl _)
 have c18 : List.take j s.ents ++ List.drop (j + 1) s.ents = s.ents.eraseIdx j := (List.eraseIdx_eq_take_drop_succ ..).symm
 have c19 : (s.ents.eraseIdx j).length = j + (s.ents.length - (j + 1)) := by rw [List.length_eraseIdx_of_lt hjl]; omega
 rw [c19]
 simp [code, Tryz.f123, hr, hp2, hp10, hp12, hp19, hp21, q1, hw, k, hjl, c1, c2, c3, c4, c5, c6, c7, c8, c9, c10, c11, c12, c13, c14, c15, c16, c17, c18]
 try rw [List.take_take, Nat.min_self, c18]
 ) Tryz.f123 Tryz.results123)
theorem p123_46nd (s : Sta) (e : Ev) (hs : SOk s) (he : EOk e) (hser : 0 ≤ s.serial ∧ s.serial < 1000000) (k : e.kind = 4 ∨ e.kind = 6) (hp : s.pend = []) : phi C0 (lim C0) 123 [.bp 0 0, .ag [(iv e.kind), .pv false (.sl (nums .u8 e.addr)), (iv e.act), (iv e.val.kind), (iv e.val.n), .pv false (.sl (nums .u8 e.val.s)), .pv false (.sl (rws byP e.val.k)), .pv false (.sl (rws vP e.val.l)), .pv false (.sl (rws byP e.deps))]] [(0, .box [(iv s.serial), (bv s.opn), .pv false (.sl (nums .u8 s.pend)), (iv s.act), .pv false (.sl (rws nP s.ents))])] = some (.tu [], [(0, .box [(iv (s.serial + 1)), (bv (decide (e.kind = 4) && s.opn)), .nl, (iv 0), .pv false (.sl (rws nP s.ents))])]) := call0 Tryz.func123 (by kernel_rfl) ((show ∀ fn : Func, fn.results = #[] → lim C0 123 fn [.c (code Tryz.f123)] ⟨_, _⟩ = _ from fun fn hr => by
 have hp2 := plan123_2
 simp [opsOf, code, Tryz.f123] at hp2
 have hp10 := plan123_10
 simp [opsOf, code, Tryz.f123] at hp10
 have hp12 := plan123_12
 simp [opsOf, code, Tryz.f123] at hp12
 have hp19 := plan123_19
 simp [opsOf, code, Tryz.f123] at hp19
 have hp21 := plan123_21
 simp [opsOf, code, Tryz.f123] at hp21
 have q1 := fun b b0 => p118 ⟨s.serial + 1, s.opn, s.pend, s.act, s.ents⟩ s.pend b ⟨hs.pend, hs.pendB, hs.ents, hs.all⟩ hs.pendB b0
 dsimp only at q1
 have hw : IntKind.i64.wrap (s.serial + 1) = s.serial + 1 := wrap_id' (by omega)
 have hall : ∀ x ∈ s.ents, byteOk x.addr = true := fun x hx => (hs.all x hx).addrB
 rw [hp] at q1
 simp only [rws_nil] at q1
 generalize fndN _ s.ents 0 = fd at *
 rcases k with k | k
 · simp [code, Tryz.f123, hr, hp2, hp10, hp12, hp19, hp21, q1, hw, k, hp]
 · simp [code, Tryz.f123, hr, hp2, hp10, hp12, hp19, hp21, q1, hw, k, hp]
 ) Tryz.f123 Tryz.results123)
theorem p123_46ad (s : Sta) (e : Ev) (hs : SOk s) (he : EOk e) (hser : 0 ≤ s.serial ∧ s.serial < 1000000) (k : e.kind = 4 ∨ e.kind = 6) (hp : s.pend ≠ []) (j : Nat) (hj : fndN s.pend s.ents 0 = (j : Nat)) (x : En) (hx : s.ents[j]? = some x) : phi C0 (lim C0) 123 [.bp 0 0, .ag [(iv e.kind), .pv false (.sl (nums .u8 e.addr)), (iv e.act), (iv e.val.kind), (iv e.val.n), .pv false (.sl (nums .u8 e.val.s)), .pv false (.sl (rws byP e.val.k)), .pv false (.sl (rws vP e.val.l)), .pv false (.sl (rws byP e.deps))]] [(0, .box [(iv s.serial), (bv s.opn), .pv false (.sl (nums .u8 s.pend)), (iv s.act), .pv false (.sl (rws nP s.ents))])] = some (.tu [], [(0, .box [(iv (s.serial + 1)), (bv (decide (e.kind = 4) && s.opn)), .nl, (iv 0), .ref 18 0 (s.ents.set j (tntE (s.serial + 1) x)).length]), (18, .row .own 162 9 (rws nP (s.ents.set j (tntE (s.serial + 1) x))))]) := call0 Tryz.func123 (by kernel_rfl) ((show ∀ fn : Func, fn.results = #[] → lim C0 123 fn [.c (code Tryz.f123)] ⟨_, _⟩ = _ from fun fn hr => by
 have hp2 := plan123_2
 simp [opsOf, code, Tryz.f123] at hp2
 have hp10 := plan123_10
 simp [opsOf, code, Tryz.f123] at hp10
 have hp12 := plan123_12
 simp [opsOf, code, Tryz.f123] at hp12
 have hp19 := plan123_19
 simp [opsOf, code, Tryz.f123] at hp19
 have hp21 := plan123_21
 simp [opsOf, code, Tryz.f123] at hp21
 have q1 := fun b b0 => p118 ⟨s.serial + 1, s.opn, s.pend, s.act, s.ents⟩ s.pend b ⟨hs.pend, hs.pendB, hs.ents, hs.all⟩ hs.pendB b0
 dsimp only at q1
 have hw : IntKind.i64.wrap (s.serial + 1) = s.serial + 1 := wrap_id' (by omega)
 have hall : ∀ x ∈ s.ents, byteOk x.addr = true := fun x hx => (hs.all x hx).addrB
 rw [hj] at q1
 have hjl : j < s.ents.length := (List.getElem?_eq_some_iff.1 hx).1
 obtain rfl : s.ents[j] = x := (List.getElem?_eq_some_iff.1 hx).2
 have hl1 : 0 < s.pend.length := List.length_pos_iff.2 hp
 have hl2 : s.pend.length ≠ 0 := by omega
 have hl := hs.ents
 have c2 : (∀ (r : List PV), r ∈ rws nP s.ents → r.length = 9) = True := eq_true (nP_allQ _)
 have c5 : s.ents.length * 152 ≤ Pm.roomBytes := by unfold Pm.roomBytes; omega
 have c6 : s.ents.length ≤ Pm.maxL := by unfold Pm.maxL; omega
 have e := nP_setQ s.ents (tntE (s.serial + 1) s.ents[j]) j
 simp only [tntE] at e
 rcases k with k | k
 · simp [code, Tryz.f123, hr, hp2, hp10, hp12, hp19, hp21, q1, hw, k, hp, hl1, hl2, hjl, c2, c5, c6]
   exact e
 · simp [code, Tryz.f123, hr, hp2, hp10, hp12, hp19, hp21, q1, hw, k, hp, hl1, hl2, hjl, c2, c5, c6]
   exact e
 ) Tryz.f123 Tryz.results123)
theorem p123_4cd (s : Sta) (e : Ev) (hs : SOk s) (he : EOk e) (hser : 0 ≤ s.serial ∧ s.serial < 1000000) (k : e.kind = 4) (hp : s.pend ≠ []) (hf : ¬ 0 ≤ fndN s.pend s.ents 0) : phi C0 (lim C0) 123 [.bp 0 0, .ag [(iv e.kind), .pv false (.sl (nums .u8 e.addr)), (iv e.act), (iv e.val.kind), (iv e.val.n), .pv false (.sl (nums .u8 e.val.s)), .pv false (.sl (rws byP e.val.k)), .pv false (.sl (rws vP e.val.l)), .pv false (.sl (rws byP e.deps))]] [(0, .box [(iv s.serial), (bv s.opn), .pv false (.sl (nums .u8 s.pend)), (iv s.act), .pv false (.sl (rws nP s.ents))])] = some (.tu [], [(0, .box [(iv (s.serial + 1)), (bv s.opn), .nl, (iv 0), .pv false (.sl (rws nP s.ents))])]) := call0 Tryz.func123 (by kernel_rfl) ((show ∀ fn : Func, fn.results = #[] → lim C0 123 fn [.c (code Tryz.f123)] ⟨_, _⟩ = _ from fun fn hr => by
 have hp2 := plan123_2
 simp [opsOf, code, Tryz.f123] at hp2
 have hp10 := plan123_10
 simp [opsOf, code, Tryz.f123] at hp10
 have hp12 := plan123_12
 simp [opsOf, code, Tryz.f123] at hp12
 have hp19 := plan123_19
 simp [opsOf, code, Tryz.f123] at hp19
 have hp21 := plan123_21
 simp [opsOf, code, Tryz.f123] at hp21
 have q1 := fun b b0 => p118 ⟨s.serial + 1, s.opn, s.pend, s.act, s.ents⟩ s.pend b ⟨hs.pend, hs.pendB, hs.ents, hs.all⟩ hs.pendB b0
 dsimp only at q1
 have hw : IntKind.i64.wrap (s.serial + 1) = s.serial + 1 := wrap_id' (by omega)
 have hall : ∀ x ∈ s.ents, byteOk x.addr = true := fun x hx => (hs.all x hx).addrB
 have hl1 : 0 < s.pend.length := List.length_pos_iff.2 hp
 have hl2 : s.pend.length ≠ 0 := by omega
 generalize fndN _ s.ents 0 = fd at *
 simp [code, Tryz.f123, hr, hp2, hp10, hp12, hp19, hp21, q1, hw, k, hp, hl1, hl2, hf]
 ) Tryz.f123 Tryz.results123)
theorem p123_6bd (s : Sta) (e : Ev) (hs : SOk s) (he : EOk e) (hser : 0 ≤ s.serial ∧ s.serial < 1000000) (k : e.kind = 6) (hp : s.pend ≠ []) (hf : ¬ 0 ≤ fndN s.pend s.ents 0) : phi C0 (lim C0) 123 [.bp 0 0, .ag [(iv e.kind), .pv false (.sl (nums .u8 e.addr)), (iv e.act), (iv e.val.kind), (iv e.val.n), .pv false (.sl (nums .u8 e.val.s)), .pv false (.sl (rws byP e.val.k)), .pv false (.sl (rws vP e.val.l)), .pv false (.sl (rws byP e.deps))]] [(0, .box [(iv s.serial), (bv s.opn), .pv false (.sl (nums .u8 s.pend)), (iv s.act), .pv false (.sl (rws nP s.ents))])] = some (.tu [], [(0, .box [(iv (s.serial + 1)), (bv false), .nl, (iv 0), .ref 18 0 (putL ⟨s.pend, .mk 5 0 [] [] [], [], true, s.serial + 1⟩ false s.ents).length]), (18, .row .own 162 9 (rws nP (putL ⟨s.pend, .mk 5 0 [] [] [], [], true, s.serial + 1⟩ false s.ents)))]) := call0 Tryz.func123 (by kernel_rfl) ((show ∀ fn : Func, fn.results = #[] → lim C0 123 fn [.c (code Tryz.f123)] ⟨_, _⟩ = _ from fun fn hr => by
 have hp2 := plan123_2
 simp [opsOf, code, Tryz.f123] at hp2
 have hp10 := plan123_10
 simp [opsOf, code, Tryz.f123] at hp10
 have hp12 := plan123_12
 simp [opsOf, code, Tryz.f123] at hp12
 have hp19 := plan123_19
 simp [opsOf, code, Tryz.f123] at hp19
 have hp21 := plan123_21
 simp [opsOf, code, Tryz.f123] at hp21
 have q1 := fun b b0 => p118 ⟨s.serial + 1, s.opn, s.pend, s.act, s.ents⟩ s.pend b ⟨hs.pend, hs.pendB, hs.ents, hs.all⟩ hs.pendB b0
 dsimp only at q1
 have hw : IntKind.i64.wrap (s.serial + 1) = s.serial + 1 := wrap_id' (by omega)
 have hall : ∀ x ∈ s.ents, byteOk x.addr = true := fun x hx => (hs.all x hx).addrB
 have hl1 : 0 < s.pend.length := List.length_pos_iff.2 hp
 have hl2 : s.pend.length ≠ 0 := by omega
 have q2 := fun b => p152 b s.ents ⟨s.pend, .mk 5 0 [] [] [], [], true, s.serial + 1⟩ hs.ents hs.pendB hall
 simp only [Val.kind, Val.n, Val.s, Val.k, Val.l, rws_nil] at q2
 generalize fndN _ s.ents 0 = fd at *
 simp [code, Tryz.f123, hr, hp2, hp10, hp12, hp19, hp21, q1, q2, hw, k, hp, hl1, hl2, hf]
 ) Tryz.f123 Tryz.results123)
theorem p123_0dz (s : Sta) (e : Ev) (hs : SOk s) (he : EOk e) (hser : 0 ≤ s.serial ∧ s.serial < 1000000) (hz : s.pend = []) (k : e.kind = 0) : phi C0 (lim C0) 123 [.bp 0 0, .ag [(iv e.kind), .pv false (.sl (nums .u8 e.addr)), (iv e.act), (iv e.val.kind), (iv e.val.n), .pv false (.sl (nums .u8 e.val.s)), .pv false (.sl (rws byP e.val.k)), .pv false (.sl (rws vP e.val.l)), .pv false (.sl (rws byP e.deps))]] [(0, .box [(iv s.serial), (bv s.opn), .nl, (iv s.act), .pv false (.sl (rws nP s.ents))])] = some (.tu [], [(0, .box [(iv (s.serial + 1)), (bv true), .nl, (iv s.act), .pv false (.sl (rws nP s.ents))])]) := call0 Tryz.func123 (by kernel_rfl) ((show ∀ fn : Func, fn.results = #[] → lim C0 123 fn [.c (code Tryz.f123)] ⟨_, _⟩ = _ from fun fn hr => by
 have hp2 := plan123_2
 simp [opsOf, code, Tryz.f123] at hp2
 have hp10 := plan123_10
 simp [opsOf, code, Tryz.f123] at hp10
 have hp12 := plan123_12
 simp [opsOf, code, Tryz.f123] at hp12
 have hp19 := plan123_19
 simp [opsOf, code, Tryz.f123] at hp19
 have hp21 := plan123_21
 simp [opsOf, code, Tryz.f123] at hp21
 have q1 := fun b b0 => p118 ⟨s.serial + 1, s.opn, s.pend, s.act, s.ents⟩ s.pend b ⟨hs.pend, hs.pendB, hs.ents, hs.all⟩ hs.pendB b0
 dsimp only at q1
 have hw : IntKind.i64.wrap (s.serial + 1) = s.serial + 1 := wrap_id' (by omega)
 have hall : ∀ x ∈ s.ents, byteOk x.addr = true := fun x hx => (hs.all x hx).addrB
 rw [hz] at q1
 simp only [rws_nil] at q1
 generalize fndN _ s.ents 0 = fd at *
 simp [code, Tryz.f123, hr, hp2, hp10, hp12, hp19, hp21, q1, hw, k]
 ) Tryz.f123 Tryz.results123)
theorem p123_1dz (s : Sta) (e : Ev) (hs : SOk s) (he : EOk e) (hser : 0 ≤ s.serial ∧ s.serial < 1000000) (hz : s.pend = []) (k : e.kind = 1) : phi C0 (lim C0) 123 [.bp 0 0, .ag [(iv e.kind), .pv false (.sl (nums .u8 e.addr)), (iv e.act), (iv e.val.kind), (iv e.val.n), .pv false (.sl (nums .u8 e.val.s)), .pv false (.sl (rws byP e.val.k)), .pv false (.sl (rws vP e.val.l)), .pv false (.sl (rws byP e.deps))]] [(0, .box [(iv s.serial), (bv s.opn), .nl, (iv s.act), .pv false (.sl (rws nP s.ents))])] = some (.tu [], [(0, .box [(iv (s.serial + 1)), (bv s.opn), .pv false (.sl (nums .u8 e.addr)), (iv e.act), .pv false (.sl (rws nP s.ents))])]) := call0 Tryz.func123 (by kernel_rfl) ((show ∀ fn : Func, fn.results = #[] → lim C0 123 fn [.c (code Tryz.f123)] ⟨_, _⟩ = _ from fun fn hr => by
 have hp2 := plan123_2
 simp [opsOf, code, Tryz.f123] at hp2
 have hp10 := plan123_10
 simp [opsOf, code, Tryz.f123] at hp10
 have hp12 := plan123_12
 simp [opsOf, code, Tryz.f123] at hp12
 have hp19 := plan123_19
 simp [opsOf, code, Tryz.f123] at hp19
 have hp21 := plan123_21
 simp [opsOf, code, Tryz.f123] at hp21
 have q1 := fun b b0 => p118 ⟨s.serial + 1, s.opn, s.pend, s.act, s.ents⟩ s.pend b ⟨hs.pend, hs.pendB, hs.ents, hs.all⟩ hs.pendB b0
 dsimp only at q1
 have hw : IntKind.i64.wrap (s.serial + 1) = s.serial + 1 := wrap_id' (by omega)
 have hall : ∀ x ∈ s.ents, byteOk x.addr = true := fun x hx => (hs.all x hx).addrB
 rw [hz] at q1
 simp only [rws_nil] at q1
 generalize fndN _ s.ents 0 = fd at *
 simp [code, Tryz.f123, hr, hp2, hp10, hp12, hp19, hp21, q1, hw, k]
 ) Tryz.f123 Tryz.results123)
theorem p123_5dz (s : Sta) (e : Ev) (hs : SOk s) (he : EOk e) (hser : 0 ≤ s.serial ∧ s.serial < 1000000) (hz : s.pend = []) (k : e.kind = 5) : phi C0 (lim C0) 123 [.bp 0 0, .ag [(iv e.kind), .pv false (.sl (nums .u8 e.addr)), (iv e.act), (iv e.val.kind), (iv e.val.n), .pv false (.sl (nums .u8 e.val.s)), .pv false (.sl (rws byP e.val.k)), .pv false (.sl (rws vP e.val.l)), .pv false (.sl (rws byP e.deps))]] [(0, .box [(iv s.serial), (bv s.opn), .nl, (iv s.act), .pv false (.sl (rws nP s.ents))])] = some (.tu [], [(0, .box [(iv (s.serial + 1)), (bv false), .nl, (iv 0), .pv false (.sl (rws nP s.ents))])]) := call0 Tryz.func123 (by kernel_rfl) ((show ∀ fn : Func, fn.results = #[] → lim C0 123 fn [.c (code Tryz.f123)] ⟨_, _⟩ = _ from fun fn hr => by
 have hp2 := plan123_2
 simp [opsOf, code, Tryz.f123] at hp2
 have hp10 := plan123_10
 simp [opsOf, code, Tryz.f123] at hp10
 have hp12 := plan123_12
 simp [opsOf, code, Tryz.f123] at hp12
 have hp19 := plan123_19
 simp [opsOf, code, Tryz.f123] at hp19
 have hp21 := plan123_21
 simp [opsOf, code, Tryz.f123] at hp21
 have q1 := fun b b0 => p118 ⟨s.serial + 1, s.opn, s.pend, s.act, s.ents⟩ s.pend b ⟨hs.pend, hs.pendB, hs.ents, hs.all⟩ hs.pendB b0
 dsimp only at q1
 have hw : IntKind.i64.wrap (s.serial + 1) = s.serial + 1 := wrap_id' (by omega)
 have hall : ∀ x ∈ s.ents, byteOk x.addr = true := fun x hx => (hs.all x hx).addrB
 rw [hz] at q1
 simp only [rws_nil] at q1
 generalize fndN _ s.ents 0 = fd at *
 simp [code, Tryz.f123, hr, hp2, hp10, hp12, hp19, hp21, q1, hw, k]
 ) Tryz.f123 Tryz.results123)
theorem p123_6ndz (s : Sta) (e : Ev) (hs : SOk s) (he : EOk e) (hser : 0 ≤ s.serial ∧ s.serial < 1000000) (hz : s.pend = []) (k : e.kind = 6) : phi C0 (lim C0) 123 [.bp 0 0, .ag [(iv e.kind), .pv false (.sl (nums .u8 e.addr)), (iv e.act), (iv e.val.kind), (iv e.val.n), .pv false (.sl (nums .u8 e.val.s)), .pv false (.sl (rws byP e.val.k)), .pv false (.sl (rws vP e.val.l)), .pv false (.sl (rws byP e.deps))]] [(0, .box [(iv s.serial), (bv s.opn), .nl, (iv s.act), .pv false (.sl (rws nP s.ents))])] = some (.tu [], [(0, .box [(iv (s.serial + 1)), (bv false), .nl, (iv 0), .pv false (.sl (rws nP s.ents))])]) := call0 Tryz.func123 (by kernel_rfl) ((show ∀ fn : Func, fn.results = #[] → lim C0 123 fn [.c (code Tryz.f123)] ⟨_, _⟩ = _ from fun fn hr => by
 have hp2 := plan123_2
 simp [opsOf, code, Tryz.f123] at hp2
 have hp10 := plan123_10
 simp [opsOf, code, Tryz.f123] at hp10
 have hp12 := plan123_12
 simp [opsOf, code, Tryz.f123] at hp12
 have hp19 := plan123_19
 simp [opsOf, code, Tryz.f123] at hp19
 have hp21 := plan123_21
 simp [opsOf, code, Tryz.f123] at hp21
 have q1 := fun b b0 => p118 ⟨s.serial + 1, s.opn, s.pend, s.act, s.ents⟩ s.pend b ⟨hs.pend, hs.pendB, hs.ents, hs.all⟩ hs.pendB b0
 dsimp only at q1
 have hw : IntKind.i64.wrap (s.serial + 1) = s.serial + 1 := wrap_id' (by omega)
 have hall : ∀ x ∈ s.ents, byteOk x.addr = true := fun x hx => (hs.all x hx).addrB
 rw [hz] at q1
 simp only [rws_nil] at q1
 generalize fndN _ s.ents 0 = fd at *
 simp [code, Tryz.f123, hr, hp2, hp10, hp12, hp19, hp21, q1, hw, k]
 ) Tryz.f123 Tryz.results123)
theorem p123_0o (s : Sta) (e : Ev) (hs : SOk s) (he : EOk e) (hser : 0 ≤ s.serial ∧ s.serial < 1000000) (k : e.kind = 0) : phi C0 (lim C0) 123 [.bp 0 0, .ag [(iv e.kind), .pv false (.sl (nums .u8 e.addr)), (iv e.act), (iv e.val.kind), (iv e.val.n), .pv false (.sl (nums .u8 e.val.s)), .pv false (.sl (rws byP e.val.k)), .pv false (.sl (rws vP e.val.l)), .pv false (.sl (rws byP e.deps))]] [(0, .box [(iv s.serial), (bv s.opn), .pv false (.sl (nums .u8 s.pend)), (iv s.act), .ref 1 0 s.ents.length]), (1, .row .io 162 9 (rws nP s.ents))] = some (.tu [], [(0, .box [(iv (s.serial + 1)), (bv true), .pv false (.sl (nums .u8 s.pend)), (iv s.act), .ref 1 0 s.ents.length]), (1, .row .io 162 9 (rws nP s.ents))]) := call0 Tryz.func123 (by kernel_rfl) ((show ∀ fn : Func, fn.results = #[] → lim C0 123 fn [.c (code Tryz.f123)] ⟨_, _⟩ = _ from fun fn hr => by
 have hp2 := plan123_2
 simp [opsOf, code, Tryz.f123] at hp2
 have hp10 := plan123_10
 simp [opsOf, code, Tryz.f123] at hp10
 have hp12 := plan123_12
 simp [opsOf, code, Tryz.f123] at hp12
 have hp19 := plan123_19
 simp [opsOf, code, Tryz.f123] at hp19
 have hp21 := plan123_21
 simp [opsOf, code, Tryz.f123] at hp21
 have q1 := fun b b0 => p118 ⟨s.serial + 1, s.opn, s.pend, s.act, s.ents⟩ s.pend b ⟨hs.pend, hs.pendB, hs.ents, hs.all⟩ hs.pendB b0
 dsimp only at q1
 have hw : IntKind.i64.wrap (s.serial + 1) = s.serial + 1 := wrap_id' (by omega)
 have hall : ∀ x ∈ s.ents, byteOk x.addr = true := fun x hx => (hs.all x hx).addrB
 generalize fndN _ s.ents 0 = fd at *
 simp [code, Tryz.f123, hr, hp2, hp10, hp12, hp19, hp21, q1, hw, k]
 ) Tryz.f123 Tryz.results123)
theorem p123_1o (s : Sta) (e : Ev) (hs : SOk s) (he : EOk e) (hser : 0 ≤ s.serial ∧ s.serial < 1000000) (k : e.kind = 1) : phi C0 (lim C0) 123 [.bp 0 0, .ag [(iv e.kind), .pv false (.sl (nums .u8 e.addr)), (iv e.act), (iv e.val.kind), (iv e.val.n), .pv false (.sl (nums .u8 e.val.s)), .pv false (.sl (rws byP e.val.k)), .pv false (.sl (rws vP e.val.l)), .pv false (.sl (rws byP e.deps))]] [(0, .box [(iv s.serial), (bv s.opn), .pv false (.sl (nums .u8 s.pend)), (iv s.act), .ref 1 0 s.ents.length]), (1, .row .io 162 9 (rws nP s.ents))] = some (.tu [], [(0, .box [(iv (s.serial + 1)), (bv s.opn), .pv false (.sl (nums .u8 e.addr)), (iv e.act), .ref 1 0 s.ents.length]), (1, .row .io 162 9 (rws nP s.ents))]) := call0 Tryz.func123 (by kernel_rfl) ((show ∀ fn : Func, fn.results = #[] → lim C0 123 fn [.c (code Tryz.f123)] ⟨_, _⟩ = _ from fun fn hr => by
 have hp2 := plan123_2
 simp [opsOf, code, Tryz.f123] at hp2
 have hp10 := plan123_10
 simp [opsOf, code, Tryz.f123] at hp10
 have hp12 := plan123_12
 simp [opsOf, code, Tryz.f123] at hp12
 have hp19 := plan123_19
 simp [opsOf, code, Tryz.f123] at hp19
 have hp21 := plan123_21
 simp [opsOf, code, Tryz.f123] at hp21
 have q1 := fun b b0 => p118 ⟨s.serial + 1, s.opn, s.pend, s.act, s.ents⟩ s.pend b ⟨hs.pend, hs.pendB, hs.ents, hs.all⟩ hs.pendB b0
 dsimp only at q1
 have hw : IntKind.i64.wrap (s.serial + 1) = s.serial + 1 := wrap_id' (by omega)
 have hall : ∀ x ∈ s.ents, byteOk x.addr = true := fun x hx => (hs.all x hx).addrB
 generalize fndN _ s.ents 0 = fd at *
 simp [code, Tryz.f123, hr, hp2, hp10, hp12, hp19, hp21, q1, hw, k]
 ) Tryz.f123 Tryz.results123)
theorem p123_5o (s : Sta) (e : Ev) (hs : SOk s) (he : EOk e) (hser : 0 ≤ s.serial ∧ s.serial < 1000000) (k : e.kind = 5) : phi C0 (lim C0) 123 [.bp 0 0, .ag [(iv e.kind), .pv false (.sl (nums .u8 e.addr)), (iv e.act), (iv e.val.kind), (iv e.val.n), .pv false (.sl (nums .u8 e.val.s)), .pv false (.sl (rws byP e.val.k)), .pv false (.sl (rws vP e.val.l)), .pv false (.sl (rws byP e.deps))]] [(0, .box [(iv s.serial), (bv s.opn), .pv false (.sl (nums .u8 s.pend)), (iv s.act), .ref 1 0 s.ents.length]), (1, .row .io 162 9 (rws nP s.ents))] = some (.tu [], [(0, .box [(iv (s.serial + 1)), (bv false), .nl, (iv 0), .ref 1 0 s.ents.length]), (1, .row .io 162 9 (rws nP s.ents))]) := call0 Tryz.func123 (by kernel_rfl) ((show ∀ fn : Func, fn.results = #[] → lim C0 123 fn [.c (code Tryz.f123)] ⟨_, _⟩ = _ from fun fn hr => by
 have hp2 := plan123_2
 simp [opsOf, code, Tryz.f123] at hp2
 have hp10 := plan123_10
 simp [opsOf, code, Tryz.f123] at hp10
 have hp12 := plan123_12
 simp [opsOf, code, Tryz.f123] at hp12
 have hp19 := plan123_19
 simp [opsOf, code, Tryz.f123] at hp19
 have hp21 := plan123_21
 simp [opsOf, code, Tryz.f123] at hp21
 have q1 := fun b b0 => p118 ⟨s.serial + 1, s.opn, s.pend, s.act, s.ents⟩ s.pend b ⟨hs.pend, hs.pendB, hs.ents, hs.all⟩ hs.pendB b0
 dsimp only at q1
 have hw : IntKind.i64.wrap (s.serial + 1) = s.serial + 1 := wrap_id' (by omega)
 have hall : ∀ x ∈ s.ents, byteOk x.addr = true := fun x hx => (hs.all x hx).addrB
 generalize fndN _ s.ents 0 = fd at *
 simp [code, Tryz.f123, hr, hp2, hp10, hp12, hp19, hp21, q1, hw, k]
 ) Tryz.f123 Tryz.results123)
theorem p123_2o (s : Sta) (e : Ev) (hs : SOk s) (he : EOk e) (hser : 0 ≤ s.serial ∧ s.serial < 1000000) (k : e.kind = 2) : phi C0 (lim C0) 123 [.bp 0 0, .ag [(iv e.kind), .pv false (.sl (nums .u8 e.addr)), (iv e.act), (iv e.val.kind), (iv e.val.n), .pv false (.sl (nums .u8 e.val.s)), .pv false (.sl (rws byP e.val.k)), .pv false (.sl (rws vP e.val.l)), .pv false (.sl (rws byP e.deps))]] [(0, .box [(iv s.serial), (bv s.opn), .pv false (.sl (nums .u8 s.pend)), (iv s.act), .ref 1 0 s.ents.length]), (1, .row .io 162 9 (rws nP s.ents))] = some (.tu [], [(0, .box [(iv (s.serial + 1)), (bv s.opn), .nl, (iv 0), .ref 18 0 (putL ⟨e.addr, e.val, e.deps, false, s.serial + 1⟩ false s.ents).length]), (1, .row .io 162 9 (rws nP s.ents)), (18, .row .own 162 9 (rws nP (putL ⟨e.addr, e.val, e.deps, false, s.serial + 1⟩ false s.ents)))]) := call0 Tryz.func123 (by kernel_rfl) ((show ∀ fn : Func, fn.results = #[] → lim C0 123 fn [.c (code Tryz.f123)] ⟨_, _⟩ = _ from fun fn hr => by
 have hp2 := plan123_2
 simp [opsOf, code, Tryz.f123] at hp2
 have hp10 := plan123_10
 simp [opsOf, code, Tryz.f123] at hp10
 have hp12 := plan123_12
 simp [opsOf, code, Tryz.f123] at hp12
 have hp19 := plan123_19
 simp [opsOf, code, Tryz.f123] at hp19
 have hp21 := plan123_21
 simp [opsOf, code, Tryz.f123] at hp21
 have q1 := fun b b0 => p118 ⟨s.serial + 1, s.opn, s.pend, s.act, s.ents⟩ s.pend b ⟨hs.pend, hs.pendB, hs.ents, hs.all⟩ hs.pendB b0
 dsimp only at q1
 have hw : IntKind.i64.wrap (s.serial + 1) = s.serial + 1 := wrap_id' (by omega)
 have hall : ∀ x ∈ s.ents, byteOk x.addr = true := fun x hx => (hs.all x hx).addrB
 have q2 := fun b => p152 b s.ents ⟨e.addr, e.val, e.deps, false, s.serial + 1⟩ hs.ents he.addrB hall
 dsimp only at q2
 generalize fndN _ s.ents 0 = fd at *
 simp [code, Tryz.f123, hr, hp2, hp10, hp12, hp19, hp21, q1, q2, hw, k]
 ) Tryz.f123 Tryz.results123)
theorem p123_3o (s : Sta) (e : Ev) (hs : SOk s) (he : EOk e) (hser : 0 ≤ s.serial ∧ s.serial < 1000000) (k : e.kind = 3) (j : Nat) (hj : fndN s.pend s.ents 0 = (j : Nat)) (hjl : j < s.ents.length) : phi C0 (lim C0) 123 [.bp 0 0, .ag [(iv e.kind), .pv false (.sl (nums .u8 e.addr)), (iv e.act), (iv e.val.kind), (iv e.val.n), .pv false (.sl (nums .u8 e.val.s)), .pv false (.sl (rws byP e.val.k)), .pv false (.sl (rws vP e.val.l)), .pv false (.sl (rws byP e.deps))]] [(0, .box [(iv s.serial), (bv s.opn), .pv false (.sl (nums .u8 s.pend)), (iv s.act), .ref 1 0 s.ents.length]), (1, .row .io 162 9 (rws nP s.ents))] = some (.tu [], [(0, .box [(iv (s.serial + 1)), (bv s.opn), .nl, (iv 0), .ref 18 0 (s.ents.eraseIdx j).length]), (1, .row .io 162 9 (rws nP s.ents)), (18, .row .own 162 9 (rws nP (s.ents.eraseIdx j)))]) := call0 Tryz.func123 (by kernel_rfl) ((show ∀ fn : Func, fn.results = #[] → lim C0 123 fn [.c (code Tryz.f123)] ⟨_, _⟩ = _ from fun fn hr => by
 have hp2 := plan123_2
 simp [opsOf, code, Tryz.f123] at hp2
 have hp10 := plan123_10
 simp [opsOf, code, Tryz.f123] at hp10
 have hp12 := plan123_12
 simp [opsOf, code, Tryz.f123] at hp12
 have hp19 := plan123_19
 simp [opsOf, code, Tryz.f123] at hp19
 have hp21 := plan123_21
 simp [opsOf, code, Tryz.f123] at hp21
 have q1 := fun b b0 => p118 ⟨s.serial + 1, s.opn, s.pend, s.act, s.ents⟩ s.pend b ⟨hs.pend, hs.pendB, hs.ents, hs.all⟩ hs.pendB b0
 dsimp only at q1
 have hw : IntKind.i64.wrap (s.serial + 1) = s.serial + 1 := wrap_id' (by omega)
 have hall : ∀ x ∈ s.ents, byteOk x.addr = true := fun x hx => (hs.all x hx).addrB
 rw [hj] at q1
 have hl := hs.ents
 have c1 : j ≤ s.ents.length := by omega
 have c2 : (∀ (r : List PV), r ∈ rws nP s.ents → r.length = 9) = True := eq_true (nP_allQ _)
 have c3 : (∀ (r : List PV), r ∈ rws nP (List.take j s.ents) → r.length = 9) = True := eq_true (nP_allQ _)
 have c4 : (∀ (r : List PV), r ∈ rws nP (List.drop (j + 1) s.ents) → r.length = 9) = True := eq_true (nP_allQ _)
 have c5 : j * 152 ≤ Pm.roomBytes := by unfold Pm.roomBytes; omega
 have c6 : j ≤ Pm.maxL := by unfold Pm.maxL; omega
 have c7 : IntKind.i64.wrap ((j : Int) + 1) = j + 1 := wrap_id' (by omega)
 have c8 : j + 1 ≤ s.ents.length := by omega
 have c9 : ((j : Int) + 1).toNat = j + 1 := by omega
 have c10 : (0 : Int) ≤ (j : Int) + 1 := by omega
 have c11 : (j : Int) + 1 ≤ (s.ents.length : Int) := by omega
 have c12 : min j s.ents.length = j := by omega
 have c13 : (j + (s.ents.length - (j + 1))) * 152 ≤ Pm.roomBytes := by unfold Pm.roomBytes; omega
 have c14 : j + (s.ents.length - (j + 1)) ≤ Pm.maxL := by unfold Pm.maxL; omega
 have c15 : List.take (s.ents.length - (j + 1)) (List.drop (j + 1) s.ents) = List.drop (j + 1) s.ents := List.take_of_length_le (by simp)
 have c16 : j + 1 + (s.ents.length - (j + 1)) ≤ s.ents.length := by omega
 have c17 : Spare j j = False := eq_false (Nat.lt_irrefl _)
 have c18 : List.take j s.ents ++ List.drop (j + 1) s.ents = s.ents.eraseIdx j := (List.eraseIdx_eq_take_drop_succ ..).symm
 have c19 : (s.ents.eraseIdx j).length = j + (s.ents.length - (j + 1)) := by rw [List.length_eraseIdx_of_lt hjl]; omega
 rw [c19]
 simp [code, Tryz.f123, hr, hp2, hp10, hp12, hp19, hp21, q1, hw, k, hjl, c1, c2, c3, c4, c5, c6, c7, c8, c9, c10, c11, c12, c13, c14, c15, c16, c17, c18]
 try rw [List.take_take, Nat.min_self, c18]
 ) Tryz.f123 Tryz.results123)
theorem p123_46no (s : Sta) (e : Ev) (hs : SOk s) (he : EOk e) (hser : 0 ≤ s.serial ∧ s.serial < 1000000) (k : e.kind = 4 ∨ e.kind = 6) (hp : s.pend = []) : phi C0 (lim C0) 123 [.bp 0 0, .ag [(iv e.kind), .pv false (.sl (nums .u8 e.addr)), (iv e.act), (iv e.val.kind), (iv e.val.n), .pv false (.sl (nums .u8 e.val.s)), .pv false (.sl (rws byP e.val.k)), .pv false (.sl (rws vP e.val.l)), .pv false (.sl (rws byP e.deps))]] [(0, .box [(iv s.serial), (bv s.opn), .pv false (.sl (nums .u8 s.pend)), (iv s.act), .ref 1 0 s.ents.length]), (1, .row .io 162 9 (rws nP s.ents))] = some (.tu [], [(0, .box [(iv (s.serial + 1)), (bv (decide (e.kind = 4) && s.opn)), .nl, (iv 0), .ref 1 0 s.ents.length]), (1, .row .io 162 9 (rws nP s.ents))]) := call0 Tryz.func123 (by kernel_rfl) ((show ∀ fn : Func, fn.results = #[] → lim C0 123 fn [.c (code Tryz.f123)] ⟨_, _⟩ = _ from fun fn hr => by
 have hp2 := plan123_2
 simp [opsOf, code, Tryz.f123] at hp2
 have hp10 := plan123_10
 simp [opsOf, code, Tryz.f123] at hp10
 have hp12 := plan123_12
 simp [opsOf, code, Tryz.f123] at hp12
 have hp19 := plan123_19
 simp [opsOf, code, Tryz.f123] at hp19
 have hp21 := plan123_21
 simp [opsOf, code, Tryz.f123] at hp21
 have q1 := fun b b0 => p118 ⟨s.serial + 1, s.opn, s.pend, s.act, s.ents⟩ s.pend b ⟨hs.pend, hs.pendB, hs.ents, hs.all⟩ hs.pendB b0
 dsimp only at q1
 have hw : IntKind.i64.wrap (s.serial + 1) = s.serial + 1 := wrap_id' (by omega)
 have hall : ∀ x ∈ s.ents, byteOk x.addr = true := fun x hx => (hs.all x hx).addrB
 rw [hp] at q1
 simp only [rws_nil] at q1
 generalize fndN _ s.ents 0 = fd at *
 rcases k with k | k
 · simp [code, Tryz.f123, hr, hp2, hp10, hp12, hp19, hp21, q1, hw, k, hp]
 · simp [code, Tryz.f123, hr, hp2, hp10, hp12, hp19, hp21, q1, hw, k, hp]
 ) Tryz.f123 Tryz.results123)
theorem p123_46ao (s : Sta) (e : Ev) (hs : SOk s) (he : EOk e) (hser : 0 ≤ s.serial ∧ s.serial < 1000000) (k : e.kind = 4 ∨ e.kind = 6) (hp : s.pend ≠ []) (j : Nat) (hj : fndN s.pend s.ents 0 = (j : Nat)) (x : En) (hx : s.ents[j]? = some x) : phi C0 (lim C0) 123 [.bp 0 0, .ag [(iv e.kind), .pv false (.sl (nums .u8 e.addr)), (iv e.act), (iv e.val.kind), (iv e.val.n), .pv false (.sl (nums .u8 e.val.s)), .pv false (.sl (rws byP e.val.k)), .pv false (.sl (rws vP e.val.l)), .pv false (.sl (rws byP e.deps))]] [(0, .box [(iv s.serial), (bv s.opn), .pv false (.sl (nums .u8 s.pend)), (iv s.act), .ref 1 0 s.ents.length]), (1, .row .io 162 9 (rws nP s.ents))] = some (.tu [], [(0, .box [(iv (s.serial + 1)), (bv (decide (e.kind = 4) && s.opn)), .nl, (iv 0), .ref 18 0 (s.ents.set j (tntE (s.serial + 1) x)).length]), (1, .row .io 162 9 (rws nP s.ents)), (18, .row .own 162 9 (rws nP (s.ents.set j (tntE (s.serial + 1) x))))]) := call0 Tryz.func123 (by kernel_rfl) ((show ∀ fn : Func, fn.results = #[] → lim C0 123 fn [.c (code Tryz.f123)] ⟨_, _⟩ = _ from fun fn hr => by
 have hp2 := plan123_2
 simp [opsOf, code, Tryz.f123] at hp2
 have hp10 := plan123_10
 simp [opsOf, code, Tryz.f123] at hp10
 have hp12 := plan123_12
 simp [opsOf, code, Tryz.f123] at hp12
 have hp19 := plan123_19
 simp [opsOf, code, Tryz.f123] at hp19
 have hp21 := plan123_21
 simp [opsOf, code, Tryz.f123] at hp21
 have q1 := fun b b0 => p118 ⟨s.serial + 1, s.opn, s.pend, s.act, s.ents⟩ s.pend b ⟨hs.pend, hs.pendB, hs.ents, hs.all⟩ hs.pendB b0
 dsimp only at q1
 have hw : IntKind.i64.wrap (s.serial + 1) = s.serial + 1 := wrap_id' (by omega)
 have hall : ∀ x ∈ s.ents, byteOk x.addr = true := fun x hx => (hs.all x hx).addrB
 rw [hj] at q1
 have hjl : j < s.ents.length := (List.getElem?_eq_some_iff.1 hx).1
 obtain rfl : s.ents[j] = x := (List.getElem?_eq_some_iff.1 hx).2
 have hl1 : 0 < s.pend.length := List.length_pos_iff.2 hp
 have hl2 : s.pend.length ≠ 0 := by omega
 have hl := hs.ents
 have c2 : (∀ (r : List PV), r ∈ rws nP s.ents → r.length = 9) = True := eq_true (nP_allQ _)
 have c5 : s.ents.length * 152 ≤ Pm.roomBytes := by unfold Pm.roomBytes; omega
 have c6 : s.ents.length ≤ Pm.maxL := by unfold Pm.maxL; omega
 have e := nP_setQ s.ents (tntE (s.serial + 1) s.ents[j]) j
 simp only [tntE] at e
 rcases k with k | k
 · simp [code, Tryz.f123, hr, hp2, hp10, hp12, hp19, hp21, q1, hw, k, hp, hl1, hl2, hjl, c2, c5, c6]
   exact e
 · simp [code, Tryz.f123, hr, hp2, hp10, hp12, hp19, hp21, q1, hw, k, hp, hl1, hl2, hjl, c2, c5, c6]
   exact e
 ) Tryz.f123 Tryz.results123)
theorem p123_4co (s : Sta) (e : Ev) (hs : SOk s) (he : EOk e) (hser : 0 ≤ s.serial ∧ s.serial < 1000000) (k : e.kind = 4) (hp : s.pend ≠ []) (hf : ¬ 0 ≤ fndN s.pend s.ents 0) : phi C0 (lim C0) 123 [.bp 0 0, .ag [(iv e.kind), .pv false (.sl (nums .u8 e.addr)), (iv e.act), (iv e.val.kind), (iv e.val.n), .pv false (.sl (nums .u8 e.val.s)), .pv false (.sl (rws byP e.val.k)), .pv false (.sl (rws vP e.val.l)), .pv false (.sl (rws byP e.deps))]] [(0, .box [(iv s.serial), (bv s.opn), .pv false (.sl (nums .u8 s.pend)), (iv s.act), .ref 1 0 s.ents.length]), (1, .row .io 162 9 (rws nP s.ents))] = some (.tu [], [(0, .box [(iv (s.serial + 1)), (bv s.opn), .nl, (iv 0), .ref 1 0 s.ents.length]), (1, .row .io 162 9 (rws nP s.ents))]) := call0 Tryz.func123 (by kernel_rfl) ((show ∀ fn : Func, fn.results = #[] → lim C0 123 fn [.c (code Tryz.f123)] ⟨_, _⟩ = _ from fun fn hr => by
 have hp2 := plan123_2
 simp [opsOf, code, Tryz.f123] at hp2
 have hp10 := plan123_10
 simp [opsOf, code, Tryz.f123] at hp10
 have hp12 := plan123_12
 simp [opsOf, code, Tryz.f123] at hp12
 have hp19 := plan123_19
 simp [opsOf, code, Tryz.f123] at hp19
 have hp21 := plan123_21
 simp [opsOf, code, Tryz.f123] at hp21
 have q1 := fun b b0 => p118 ⟨s.serial + 1, s.opn, s.pend, s.act, s.ents⟩ s.pend b ⟨hs.pend, hs.pendB, hs.ents, hs.all⟩ hs.pendB b0
 dsimp only at q1
 have hw : IntKind.i64.wrap (s.serial + 1) = s.serial + 1 := wrap_id' (by omega)
 have hall : ∀ x ∈ s.ents, byteOk x.addr = true := fun x hx => (hs.all x hx).addrB
 have hl1 : 0 < s.pend.length := List.length_pos_iff.2 hp
 have hl2 : s.pend.length ≠ 0 := by omega
 generalize fndN _ s.ents 0 = fd at *
 simp [code, Tryz.f123, hr, hp2, hp10, hp12, hp19, hp21, q1, hw, k, hp, hl1, hl2, hf]
 ) Tryz.f123 Tryz.results123)
theorem p123_6bo (s : Sta) (e : Ev) (hs : SOk s) (he : EOk e) (hser : 0 ≤ s.serial ∧ s.serial < 1000000) (k : e.kind = 6) (hp : s.pend ≠ []) (hf : ¬ 0 ≤ fndN s.pend s.ents 0) : phi C0 (lim C0) 123 [.bp 0 0, .ag [(iv e.kind), .pv false (.sl (nums .u8 e.addr)), (iv e.act), (iv e.val.kind), (iv e.val.n), .pv false (.sl (nums .u8 e.val.s)), .pv false (.sl (rws byP e.val.k)), .pv false (.sl (rws vP e.val.l)), .pv false (.sl (rws byP e.deps))]] [(0, .box [(iv s.serial), (bv s.opn), .pv false (.sl (nums .u8 s.pend)), (iv s.act), .ref 1 0 s.ents.length]), (1, .row .io 162 9 (rws nP s.ents))] = some (.tu [], [(0, .box [(iv (s.serial + 1)), (bv false), .nl, (iv 0), .ref 18 0 (putL ⟨s.pend, .mk 5 0 [] [] [], [], true, s.serial + 1⟩ false s.ents).length]), (1, .row .io 162 9 (rws nP s.ents)), (18, .row .own 162 9 (rws nP (putL ⟨s.pend, .mk 5 0 [] [] [], [], true, s.serial + 1⟩ false s.ents)))]) := call0 Tryz.func123 (by kernel_rfl) ((show ∀ fn : Func, fn.results = #[] → lim C0 123 fn [.c (code Tryz.f123)] ⟨_, _⟩ = _ from fun fn hr => by
 have hp2 := plan123_2
 simp [opsOf, code, Tryz.f123] at hp2
 have hp10 := plan123_10
 simp [opsOf, code, Tryz.f123] at hp10
 have hp12 := plan123_12
 simp [opsOf, code, Tryz.f123] at hp12
 have hp19 := plan123_19
 simp [opsOf, code, Tryz.f123] at hp19
 have hp21 := plan123_21
 simp [opsOf, code, Tryz.f123] at hp21
 have q1 := fun b b0 => p118 ⟨s.serial + 1, s.opn, s.pend, s.act, s.ents⟩ s.pend b ⟨hs.pend, hs.pendB, hs.ents, hs.all⟩ hs.pendB b0
 dsimp only at q1
 have hw : IntKind.i64.wrap (s.serial + 1) = s.serial + 1 := wrap_id' (by omega)
 have hall : ∀ x ∈ s.ents, byteOk x.addr = true := fun x hx => (hs.all x hx).addrB
 have hl1 : 0 < s.pend.length := List.length_pos_iff.2 hp
 have hl2 : s.pend.length ≠ 0 := by omega
 have q2 := fun b => p152 b s.ents ⟨s.pend, .mk 5 0 [] [] [], [], true, s.serial + 1⟩ hs.ents hs.pendB hall
 simp only [Val.kind, Val.n, Val.s, Val.k, Val.l, rws_nil] at q2
 generalize fndN _ s.ents 0 = fd at *
 simp [code, Tryz.f123, hr, hp2, hp10, hp12, hp19, hp21, q1, q2, hw, k, hp, hl1, hl2, hf]
 ) Tryz.f123 Tryz.results123)
theorem p123_0oz (s : Sta) (e : Ev) (hs : SOk s) (he : EOk e) (hser : 0 ≤ s.serial ∧ s.serial < 1000000) (hz : s.pend = []) (k : e.kind = 0) : phi C0 (lim C0) 123 [.bp 0 0, .ag [(iv e.kind), .pv false (.sl (nums .u8 e.addr)), (iv e.act), (iv e.val.kind), (iv e.val.n), .pv false (.sl (nums .u8 e.val.s)), .pv false (.sl (rws byP e.val.k)), .pv false (.sl (rws vP e.val.l)), .pv false (.sl (rws byP e.deps))]] [(0, .box [(iv s.serial), (bv s.opn), .nl, (iv s.act), .ref 1 0 s.ents.length]), (1, .row .io 162 9 (rws nP s.ents))] = some (.tu [], [(0, .box [(iv (s.serial + 1)), (bv true), .nl, (iv s.act), .ref 1 0 s.ents.length]), (1, .row .io 162 9 (rws nP s.ents))]) := call0 Tryz.func123 (by kernel_rfl) ((show ∀ fn : Func, fn.results = #[] → lim C0 123 fn [.c (code Tryz.f123)] ⟨_, _⟩ = _ from fun fn hr => by
 have hp2 := plan123_2
 simp [opsOf, code, Tryz.f123] at hp2
 have hp10 := plan123_10
 simp [opsOf, code, Tryz.f123] at hp10
 have hp12 := plan123_12
 simp [opsOf, code, Tryz.f123] at hp12
 have hp19 := plan123_19
 simp [opsOf, code, Tryz.f123] at hp19
 have hp21 := plan123_21
 simp [opsOf, code, Tryz.f123] at hp21
 have q1 := fun b b0 => p118 ⟨s.serial + 1, s.opn, s.pend, s.act, s.ents⟩ s.pend b ⟨hs.pend, hs.pendB, hs.ents, hs.all⟩ hs.pendB b0
 dsimp only at q1
 have hw : IntKind.i64.wrap (s.serial + 1) = s.serial + 1 := wrap_id' (by omega)
 have hall : ∀ x ∈ s.ents, byteOk x.addr = true := fun x hx => (hs.all x hx).addrB
 rw [hz] at q1
 simp only [rws_nil] at q1
 generalize fndN _ s.ents 0 = fd at *
 simp [code, Tryz.f123, hr, hp2, hp10, hp12, hp19, hp21, q1, hw, k]
 ) Tryz.f123 Tryz.results123)
theorem p123_1oz (s : Sta) (e : Ev) (hs : SOk s) (he : EOk e) (hser : 0 ≤ s.serial ∧ s.serial < 1000000) (hz : s.pend = []) (k : e.kind = 1) : phi C0 (lim C0) 123 [.bp 0 0, .ag [(iv e.kind), .pv false (.sl (nums .u8 e.addr)), (iv e.act), (iv e.val.kind), (iv e.val.n), .pv false (.sl (nums .u8 e.val.s)), .pv false (.sl (rws byP e.val.k)), .pv false (.sl (rws vP e.val.l)), .pv false (.sl (rws byP e.deps))]] [(0, .box [(iv s.serial), (bv s.opn), .nl, (iv s.act), .ref 1 0 s.ents.length]), (1, .row .io 162 9 (rws nP s.ents))] = some (.tu [], [(0, .box [(iv (s.serial + 1)), (bv s.opn), .pv false (.sl (nums .u8 e.addr)), (iv e.act), .ref 1 0 s.ents.length]), (1, .row .io 162 9 (rws nP s.ents))]) := call0 Tryz.func123 (by kernel_rfl) ((show ∀ fn : Func, fn.results = #[] → lim C0 123 fn [.c (code Tryz.f123)] ⟨_, _⟩ = _ from fun fn hr => by
 have hp2 := plan123_2
 simp [opsOf, code, Tryz.f123] at hp2
 have hp10 := plan123_10
 simp [opsOf, code, Tryz.f123] at hp10
 have hp12 := plan123_12
 simp [opsOf, code, Tryz.f123] at hp12
 have hp19 := plan123_19
 simp [opsOf, code, Tryz.f123] at hp19
 have hp21 := plan123_21
 simp [opsOf, code, Tryz.f123] at hp21
 have q1 := fun b b0 => p118 ⟨s.serial + 1, s.opn, s.pend, s.act, s.ents⟩ s.pend b ⟨hs.pend, hs.pendB, hs.ents, hs.all⟩ hs.pendB b0
 dsimp only at q1
 have hw : IntKind.i64.wrap (s.serial + 1) = s.serial + 1 := wrap_id' (by omega)
 have hall : ∀ x ∈ s.ents, byteOk x.addr = true := fun x hx => (hs.all x hx).addrB
 rw [hz] at q1
 simp only [rws_nil] at q1
 generalize fndN _ s.ents 0 = fd at *
 simp [code, Tryz.f123, hr, hp2, hp10, hp12, hp19, hp21, q1, hw, k]
 ) Tryz.f123 Tryz.results123)
theorem p123_5oz (s : Sta) (e : Ev) (hs : SOk s) (he : EOk e) (hser : 0 ≤ s.serial ∧ s.serial < 1000000) (hz : s.pend = []) (k : e.kind = 5) : phi C0 (lim C0) 123 [.bp 0 0, .ag [(iv e.kind), .pv false (.sl (nums .u8 e.addr)), (iv e.act), (iv e.val.kind), (iv e.val.n), .pv false (.sl (nums .u8 e.val.s)), .pv false (.sl (rws byP e.val.k)), .pv false (.sl (rws vP e.val.l)), .pv false (.sl (rws byP e.deps))]] [(0, .box [(iv s.serial), (bv s.opn), .nl, (iv s.act), .ref 1 0 s.ents.length]), (1, .row .io 162 9 (rws nP s.ents))] = some (.tu [], [(0, .box [(iv (s.serial + 1)), (bv false), .nl, (iv 0), .ref 1 0 s.ents.length]), (1, .row .io 162 9 (rws nP s.ents))]) := call0 Tryz.func123 (by kernel_rfl) ((show ∀ fn : Func, fn.results = #[] → lim C0 123 fn [.c (code Tryz.f123)] ⟨_, _⟩ = _ from fun fn hr => by
 have hp2 := plan123_2
 simp [opsOf, code, Tryz.f123] at hp2
 have hp10 := plan123_10
 simp [opsOf, code, Tryz.f123] at hp10
 have hp12 := plan123_12
 simp [opsOf, code, Tryz.f123] at hp12
 have hp19 := plan123_19
 simp [opsOf, code, Tryz.f123] at hp19
 have hp21 := plan123_21
 simp [opsOf, code, Tryz.f123] at hp21
 have q1 := fun b b0 => p118 ⟨s.serial + 1, s.opn, s.pend, s.act, s.ents⟩ s.pend b ⟨hs.pend, hs.pendB, hs.ents, hs.all⟩ hs.pendB b0
 dsimp only at q1
 have hw : IntKind.i64.wrap (s.serial + 1) = s.serial + 1 := wrap_id' (by omega)
 have hall : ∀ x ∈ s.ents, byteOk x.addr = true := fun x hx => (hs.all x hx).addrB
 rw [hz] at q1
 simp only [rws_nil] at q1
 generalize fndN _ s.ents 0 = fd at *
 simp [code, Tryz.f123, hr, hp2, hp10, hp12, hp19, hp21, q1, hw, k]
 ) Tryz.f123 Tryz.results123)
theorem p123_6noz (s : Sta) (e : Ev) (hs : SOk s) (he : EOk e) (hser : 0 ≤ s.serial ∧ s.serial < 1000000) (hz : s.pend = []) (k : e.kind = 6) : phi C0 (lim C0) 123 [.bp 0 0, .ag [(iv e.kind), .pv false (.sl (nums .u8 e.addr)), (iv e.act), (iv e.val.kind), (iv e.val.n), .pv false (.sl (nums .u8 e.val.s)), .pv false (.sl (rws byP e.val.k)), .pv false (.sl (rws vP e.val.l)), .pv false (.sl (rws byP e.deps))]] [(0, .box [(iv s.serial), (bv s.opn), .nl, (iv s.act), .ref 1 0 s.ents.length]), (1, .row .io 162 9 (rws nP s.ents))] = some (.tu [], [(0, .box [(iv (s.serial + 1)), (bv false), .nl, (iv 0), .ref 1 0 s.ents.length]), (1, .row .io 162 9 (rws nP s.ents))]) := call0 Tryz.func123 (by kernel_rfl) ((show ∀ fn : Func, fn.results = #[] → lim C0 123 fn [.c (code Tryz.f123)] ⟨_, _⟩ = _ from fun fn hr => by
 have hp2 := plan123_2
 simp [opsOf, code, Tryz.f123] at hp2
 have hp10 := plan123_10
 simp [opsOf, code, Tryz.f123] at hp10
 have hp12 := plan123_12
 simp [opsOf, code, Tryz.f123] at hp12
 have hp19 := plan123_19
 simp [opsOf, code, Tryz.f123] at hp19
 have hp21 := plan123_21
 simp [opsOf, code, Tryz.f123] at hp21
 have q1 := fun b b0 => p118 ⟨s.serial + 1, s.opn, s.pend, s.act, s.ents⟩ s.pend b ⟨hs.pend, hs.pendB, hs.ents, hs.all⟩ hs.pendB b0
 dsimp only at q1
 have hw : IntKind.i64.wrap (s.serial + 1) = s.serial + 1 := wrap_id' (by omega)
 have hall : ∀ x ∈ s.ents, byteOk x.addr = true := fun x hx => (hs.all x hx).addrB
 rw [hz] at q1
 simp only [rws_nil] at q1
 generalize fndN _ s.ents 0 = fd at *
 simp [code, Tryz.f123, hr, hp2, hp10, hp12, hp19, hp21, q1, hw, k]
 ) Tryz.f123 Tryz.results123)
end Go.Proofs.YtgbfmdihmnpcdaaGreatDoor
