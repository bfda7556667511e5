/- What an event does to a state, by the program. -/
import Derived.Test.YtgbfmdihmnpcdaaGreatDoorRW21
namespace Go.Proofs.YtgbfmdihmnpcdaaGreatDoor
open Go Go.Pm Go.Proofs
set_option linter.unusedVariables false
set_option linter.unusedSimpArgs false
set_option maxRecDepth 100000
set_option maxHeartbeats 4000000
theorem nP_ins (l k : List En) (x : En) : rws nP l ++ [.sl (nums .u8 x.addr), .sc (.int .i64 x.val.kind), .sc (.int .i64 x.val.n), .sl (nums .u8 x.val.s), .sl (rws byP x.val.k), .sl (rws vP x.val.l), .sl (rws byP x.deps), .sc (.bool x.taint), .sc (.int .i64 x.turned)] :: rws nP k = rws nP (l ++ x :: k) := by
 have h : rws nP l ++ nP x :: rws nP k = rws nP (l ++ x :: k) := by have h := rws_app nP l (x :: k); exact h
 rw [nP_eq] at h
 exact h
theorem nP_set (l : List En) (x : En) (i : Nat) : (rws nP l).set i [.sl (nums .u8 x.addr), .sc (.int .i64 x.val.kind), .sc (.int .i64 x.val.n), .sl (nums .u8 x.val.s), .sl (rws byP x.val.k), .sl (rws vP x.val.l), .sl (rws byP x.deps), .sc (.bool x.taint), .sc (.int .i64 x.turned)] = rws nP (l.set i x) := by
 have h := rws_set nP l i x
 rw [nP_eq] at h
 exact h
theorem pIns (l : List En) (i : Nat) (x : En) (hi : i ≤ l.length) (hl : l.length ≤ 1048576) : phi C0 (lim C0) 158 [.ref 0 0 l.length, (iv ((i : Nat))), .ref 1 0 1] [(0, .row .io 162 9 (rws nP l)), (1, .row .io 162 9 [[.sl (nums .u8 x.addr), .sc (.int .i64 x.val.kind), .sc (.int .i64 x.val.n), .sl (nums .u8 x.val.s), .sl (rws byP x.val.k), .sl (rws vP x.val.l), .sl (rws byP x.deps), .sc (.bool x.taint), .sc (.int .i64 x.turned)]])] = some (.ref 16 0 (l.length + 1), [(0, .dead), (1, .row .io 162 9 [[.sl (nums .u8 x.addr), .sc (.int .i64 x.val.kind), .sc (.int .i64 x.val.n), .sl (nums .u8 x.val.s), .sl (rws byP x.val.k), .sl (rws vP x.val.l), .sl (rws byP x.deps), .sc (.bool x.taint), .sc (.int .i64 x.turned)]]), (16, .row .io 162 9 (rws nP (l.take i ++ x :: l.drop i)))]) := by
 have g1 : (0 : Int) ≤ i := by omega
 have g2 : (i : Int) ≤ (l.length : Nat) := by omega
 have g3 := nP_ins (l.take i) (l.drop i) x
 exact phi_ext (C := C0) (by simp [C0, ext0, extI, hl, hi, g1, g2, g3])
theorem p160_n (n : Int) (o : Bool) (p : List Int) (a : Int) (l : List En) (hl : l.length ≤ 1048576) (hx : ∀ x ∈ l, byteOk x.addr = true) (hpl : p.length ≤ 1048576) (hpb : byteOk p = true) (r : Bool) (hp : p = []) : phi C0 (lim C0) 160 [.bp 0 0, (bv r)] [(0, .box [(iv n), (bv o), .pv false (.sl (nums .u8 p)), (iv a), .ref 1 0 l.length]), (1, .row .io 162 9 (rws nP l))] = some (.tu [], [(0, .box [(iv n), (bv o), .pv false (.sl (nums .u8 p)), (iv a), .ref 1 0 l.length]), (1, .row .io 162 9 (rws nP l))]) := call0 Tryz.func160 (by kernel_rfl) ((show ∀ fn : Func, fn.results = #[] → lim C0 160 fn [.c (code Tryz.f160)] ⟨_, _⟩ = _ from fun fn hr => by
 have hp1 := plan160_1
 simp [opsOf, code, Tryz.f160] at hp1
 have hp4 := plan160_4
 simp [opsOf, code, Tryz.f160] at hp4
 have hp6 := plan160_6
 simp [opsOf, code, Tryz.f160] at hp6
 subst hp
 simp [code, Tryz.f160, hr, hp1, hp4, hp6]
 ) Tryz.f160 Tryz.results160)
theorem p160_a (n : Int) (o : Bool) (p : List Int) (a : Int) (l : List En) (hl : l.length ≤ 1048576) (hx : ∀ x ∈ l, byteOk x.addr = true) (hpl : p.length ≤ 1048576) (hpb : byteOk p = true) (r : Bool) (hp : p ≠ []) (k : Nat) (x : En) (hk : bsN p l 0 l.length = k) (hx0 : l[k]? = some x) (hf : fdN p l k = true) : phi C0 (lim C0) 160 [.bp 0 0, (bv r)] [(0, .box [(iv n), (bv o), .pv false (.sl (nums .u8 p)), (iv a), .ref 1 0 l.length]), (1, .row .io 162 9 (rws nP l))] = some (.tu [], [(0, .box [(iv n), (bv o), .pv false (.sl (nums .u8 p)), (iv a), .ref 1 0 l.length]), (1, .row .io 162 9 (rws nP (l.set k (tntE n x))))]) := call0 Tryz.func160 (by kernel_rfl) ((show ∀ fn : Func, fn.results = #[] → lim C0 160 fn [.c (code Tryz.f160)] ⟨_, _⟩ = _ from fun fn hr => by
 have hp1 := plan160_1
 simp [opsOf, code, Tryz.f160] at hp1
 have hp4 := plan160_4
 simp [opsOf, code, Tryz.f160] at hp4
 have hp6 := plan160_6
 simp [opsOf, code, Tryz.f160] at hp6
 have q1 := fun b b0 => p155 n o p a l p b hl hx hpb b0
 have hl1 : 0 < p.length := List.length_pos_iff.2 hp
 have hl2 : p.length ≠ 0 := by omega
 rw [hk, hf] at q1
 have hkl : k < l.length := (List.getElem?_eq_some_iff.1 hx0).1
 obtain rfl : l[k] = x := (List.getElem?_eq_some_iff.1 hx0).2
 simp [code, Tryz.f160, hr, hp1, hp4, hp6, q1, hp, hl1, hl2, hkl]
 exact nP_set l (tntE n l[k]) k
 ) Tryz.f160 Tryz.results160)
theorem p160_c (n : Int) (o : Bool) (p : List Int) (a : Int) (l : List En) (hl : l.length ≤ 1048576) (hx : ∀ x ∈ l, byteOk x.addr = true) (hpl : p.length ≤ 1048576) (hpb : byteOk p = true) (hp : p ≠ []) (hf : fdN p l (bsN p l 0 l.length) = false) : phi C0 (lim C0) 160 [.bp 0 0, (bv false)] [(0, .box [(iv n), (bv o), .pv false (.sl (nums .u8 p)), (iv a), .ref 1 0 l.length]), (1, .row .io 162 9 (rws nP l))] = some (.tu [], [(0, .box [(iv n), (bv o), .pv false (.sl (nums .u8 p)), (iv a), .ref 1 0 l.length]), (1, .row .io 162 9 (rws nP l))]) := call0 Tryz.func160 (by kernel_rfl) ((show ∀ fn : Func, fn.results = #[] → lim C0 160 fn [.c (code Tryz.f160)] ⟨_, _⟩ = _ from fun fn hr => by
 have hp1 := plan160_1
 simp [opsOf, code, Tryz.f160] at hp1
 have hp4 := plan160_4
 simp [opsOf, code, Tryz.f160] at hp4
 have hp6 := plan160_6
 simp [opsOf, code, Tryz.f160] at hp6
 have q1 := fun b b0 => p155 n o p a l p b hl hx hpb b0
 have hl1 : 0 < p.length := List.length_pos_iff.2 hp
 have hl2 : p.length ≠ 0 := by omega
 rw [hf] at q1
 generalize bsN p l 0 l.length = k at *
 simp [code, Tryz.f160, hr, hp1, hp4, hp6, q1, hp, hl1, hl2]
 ) Tryz.f160 Tryz.results160)
theorem p160_b (n : Int) (o : Bool) (p : List Int) (a : Int) (l : List En) (hl : l.length ≤ 1048576) (hx : ∀ x ∈ l, byteOk x.addr = true) (hpl : p.length ≤ 1048576) (hpb : byteOk p = true) (hp : p ≠ []) (k : Nat) (hk : bsN p l 0 l.length = k) (hkl : k ≤ l.length) (hf : fdN p l k = false) : phi C0 (lim C0) 160 [.bp 0 0, (bv true)] [(0, .box [(iv n), (bv o), .pv false (.sl (nums .u8 p)), (iv a), .ref 1 0 l.length]), (1, .row .io 162 9 (rws nP l))] = some (.tu [], [(0, .box [(iv n), (bv o), .pv false (.sl (nums .u8 p)), (iv a), .ref 18 0 (l.length + 1)]), (18, .row .io 162 9 (rws nP (l.take k ++ ⟨p, ⟨5, 0, [], [], []⟩, [], true, n⟩ :: l.drop k)))]) := call0 Tryz.func160 (by kernel_rfl) ((show ∀ fn : Func, fn.results = #[] → lim C0 160 fn [.c (code Tryz.f160)] ⟨_, _⟩ = _ from fun fn hr => by
 have hp1 := plan160_1
 simp [opsOf, code, Tryz.f160] at hp1
 have hp4 := plan160_4
 simp [opsOf, code, Tryz.f160] at hp4
 have hp6 := plan160_6
 simp [opsOf, code, Tryz.f160] at hp6
 have q1 := fun b b0 => p155 n o p a l p b hl hx hpb b0
 have hl1 : 0 < p.length := List.length_pos_iff.2 hp
 have hl2 : p.length ≠ 0 := by omega
 rw [hk, hf] at q1
 have q2 := fun b => p34 b p hpl
 have q3 := pIns l k ⟨p, .mk 5 0 [] [] [], [], false, 0⟩ hkl hl
 simp only [Val.kind, Val.n, Val.s, Val.k, Val.l, rws_nil] at q3
 obtain ⟨L, hL⟩ : ∃ L, L = l.take k ++ ⟨p, .mk 5 0 [] [] [], [], false, 0⟩ :: l.drop k := ⟨_, rfl⟩
 rw [← hL] at q3
 have hLl : L.length = l.length + 1 := by rw [hL]; simp; omega
 have hkL : k < L.length := by omega
 have hLk : L[k] = ⟨p, .mk 5 0 [] [] [], [], false, 0⟩ := by simp [hL, List.getElem_append_right, hkl]
 have hLs : ∀ y, L.set k y = l.take k ++ y :: l.drop k := fun y => by simp [hL, List.set_append, hkl]
 have hkI : (k : Int) < (l.length : Int) + 1 := by omega
 simp [code, Tryz.f160, hr, hp1, hp4, hp6, q1, q2, q3, hp, hl1, hl2, hkl, hkL, hLk, hkI]
 have e := nP_set L ⟨p, .mk 5 0 [] [] [], [], true, n⟩ k
 rw [hLs] at e
 simpa only [rws_nil] using e
 ) Tryz.f160 Tryz.results160)
theorem p129_f (s : Sta) (e : Ev) (hs : SOk s) (he : EOk e) (hi : InvS s) (hb : evB e = true) (hm : mayS s e = false) : phi C0 (lim C0) 129 [.ag [(iv s.serial), (bv s.opn), .pv false (.sl (nums .u8 s.pend)), (iv s.act), .pv false (.sl (rws nP s.ents))], .ag [(iv e.kind), .pv false (.sl (nums .u8 e.addr)), (iv e.act), (iv e.val.kind), (iv e.val.n), .pv false (.sl (nums .u8 e.val.s)), .pv false (.sl (rws byP e.val.k)), .pv false (.sl (rws vP e.val.l)), .pv false (.sl (rws byP e.deps))]] [] = some (.tu [.ag [(iv s.serial), (bv s.opn), .pv false (.sl (nums .u8 s.pend)), (iv s.act), .pv false (.sl (rws nP s.ents))], (bv false)], []) := call0 Tryz.func129 (by kernel_rfl) ((show ∀ fn : Func, fn.results = #[.cell 4 48, .tmp 5] → lim C0 129 fn [.c (code Tryz.f129)] ⟨_, _⟩ = _ from fun fn hr => by
 have hp5 := plan129_5
 simp [opsOf, code, Tryz.f129] at hp5
 have hp15 := plan129_15
 simp [opsOf, code, Tryz.f129] at hp15
 have q1 := p127 s hs
 have q2 := p131 s e hs he hi hb false
 rw [hm] at q2
 simp [code, Tryz.f129, hr, hp5, hp15, q1, q2]
 ) Tryz.f129 Tryz.results129)
theorem p129_0 (s : Sta) (e : Ev) (hs : SOk s) (he : EOk e) (hi : InvS s) (hb : evB e = true) (hm : mayS s e = true) (k : e.kind = 0) : phi C0 (lim C0) 129 [.ag [(iv s.serial), (bv s.opn), .pv false (.sl (nums .u8 s.pend)), (iv s.act), .pv false (.sl (rws nP s.ents))], .ag [(iv e.kind), .pv false (.sl (nums .u8 e.addr)), (iv e.act), (iv e.val.kind), (iv e.val.n), .pv false (.sl (nums .u8 e.val.s)), .pv false (.sl (rws byP e.val.k)), .pv false (.sl (rws vP e.val.l)), .pv false (.sl (rws byP e.deps))]] [] = some (.tu [.ag [(iv (s.serial + 1)), (bv true), .pv false (.sl (nums .u8 s.pend)), (iv s.act), .pv false (.sl (rws nP s.ents))], (bv true)], []) := call0 Tryz.func129 (by kernel_rfl) ((show ∀ fn : Func, fn.results = #[.cell 4 48, .tmp 5] → lim C0 129 fn [.c (code Tryz.f129)] ⟨_, _⟩ = _ from fun fn hr => by
 have hp5 := plan129_5
 simp [opsOf, code, Tryz.f129] at hp5
 have hp15 := plan129_15
 simp [opsOf, code, Tryz.f129] at hp15
 have q1 := p127 s hs
 have q2 := p131 s e hs he hi hb false
 rw [hm] at q2
 have hser : 0 ≤ s.serial ∧ s.serial < 1000000 := ⟨hi.ser.1, by simp only [mayS, Bool.and_eq_true, decide_eq_true_eq] at hm; exact hm.1⟩
 have hw : IntKind.i64.wrap (s.serial + 1) = s.serial + 1 := wrap_id' (by omega)
 have hall : ∀ x ∈ s.ents, byteOk x.addr = true := fun x hx => (hs.all x hx).addrB
 have q3 := fun o p a b b0 => p155 (s.serial + 1) o p a s.ents e.addr b hs.ents hall he.addrB b0
 simp only [k] at q2
 simp [code, Tryz.f129, hr, hp5, hp15, q1, q2, q3, hw, k]
 ) Tryz.f129 Tryz.results129)
theorem p129_1 (s : Sta) (e : Ev) (hs : SOk s) (he : EOk e) (hi : InvS s) (hb : evB e = true) (hm : mayS s e = true) (k : e.kind = 1) : phi C0 (lim C0) 129 [.ag [(iv s.serial), (bv s.opn), .pv false (.sl (nums .u8 s.pend)), (iv s.act), .pv false (.sl (rws nP s.ents))], .ag [(iv e.kind), .pv false (.sl (nums .u8 e.addr)), (iv e.act), (iv e.val.kind), (iv e.val.n), .pv false (.sl (nums .u8 e.val.s)), .pv false (.sl (rws byP e.val.k)), .pv false (.sl (rws vP e.val.l)), .pv false (.sl (rws byP e.deps))]] [] = some (.tu [.ag [(iv (s.serial + 1)), (bv s.opn), .pv false (.sl (nums .u8 e.addr)), (iv e.act), .pv false (.sl (rws nP s.ents))], (bv true)], []) := call0 Tryz.func129 (by kernel_rfl) ((show ∀ fn : Func, fn.results = #[.cell 4 48, .tmp 5] → lim C0 129 fn [.c (code Tryz.f129)] ⟨_, _⟩ = _ from fun fn hr => by
 have hp5 := plan129_5
 simp [opsOf, code, Tryz.f129] at hp5
 have hp15 := plan129_15
 simp [opsOf, code, Tryz.f129] at hp15
 have q1 := p127 s hs
 have q2 := p131 s e hs he hi hb false
 rw [hm] at q2
 have hser : 0 ≤ s.serial ∧ s.serial < 1000000 := ⟨hi.ser.1, by simp only [mayS, Bool.and_eq_true, decide_eq_true_eq] at hm; exact hm.1⟩
 have hw : IntKind.i64.wrap (s.serial + 1) = s.serial + 1 := wrap_id' (by omega)
 have hall : ∀ x ∈ s.ents, byteOk x.addr = true := fun x hx => (hs.all x hx).addrB
 have q3 := fun o p a b b0 => p155 (s.serial + 1) o p a s.ents e.addr b hs.ents hall he.addrB b0
 have q4 := p34 false e.addr he.addr
 simp only [k] at q2
 simp [code, Tryz.f129, hr, hp5, hp15, q1, q2, q3, q4, hw, k]
 ) Tryz.f129 Tryz.results129)
theorem p129_5 (s : Sta) (e : Ev) (hs : SOk s) (he : EOk e) (hi : InvS s) (hb : evB e = true) (hm : mayS s e = true) (k : e.kind = 5) : phi C0 (lim C0) 129 [.ag [(iv s.serial), (bv s.opn), .pv false (.sl (nums .u8 s.pend)), (iv s.act), .pv false (.sl (rws nP s.ents))], .ag [(iv e.kind), .pv false (.sl (nums .u8 e.addr)), (iv e.act), (iv e.val.kind), (iv e.val.n), .pv false (.sl (nums .u8 e.val.s)), .pv false (.sl (rws byP e.val.k)), .pv false (.sl (rws vP e.val.l)), .pv false (.sl (rws byP e.deps))]] [] = some (.tu [.ag [(iv (s.serial + 1)), (bv false), .pv false (.sl (nums .u8 [])), (iv 0), .pv false (.sl (rws nP s.ents))], (bv true)], []) := call0 Tryz.func129 (by kernel_rfl) ((show ∀ fn : Func, fn.results = #[.cell 4 48, .tmp 5] → lim C0 129 fn [.c (code Tryz.f129)] ⟨_, _⟩ = _ from fun fn hr => by
 have hp5 := plan129_5
 simp [opsOf, code, Tryz.f129] at hp5
 have hp15 := plan129_15
 simp [opsOf, code, Tryz.f129] at hp15
 have q1 := p127 s hs
 have q2 := p131 s e hs he hi hb false
 rw [hm] at q2
 have hser : 0 ≤ s.serial ∧ s.serial < 1000000 := ⟨hi.ser.1, by simp only [mayS, Bool.and_eq_true, decide_eq_true_eq] at hm; exact hm.1⟩
 have hw : IntKind.i64.wrap (s.serial + 1) = s.serial + 1 := wrap_id' (by omega)
 have hall : ∀ x ∈ s.ents, byteOk x.addr = true := fun x hx => (hs.all x hx).addrB
 have q3 := fun o p a b b0 => p155 (s.serial + 1) o p a s.ents e.addr b hs.ents hall he.addrB b0
 simp only [k] at q2
 simp [code, Tryz.f129, hr, hp5, hp15, q1, q2, q3, hw, k]
 ) Tryz.f129 Tryz.results129)
theorem p129_2a (s : Sta) (e : Ev) (hs : SOk s) (he : EOk e) (hi : InvS s) (hb : evB e = true) (hm : mayS s e = true) (k : e.kind = 2) (i : Nat) (hk : bsN e.addr s.ents 0 s.ents.length = i) (hf : fdN e.addr s.ents i = true) (hil : i < s.ents.length) : phi C0 (lim C0) 129 [.ag [(iv s.serial), (bv s.opn), .pv false (.sl (nums .u8 s.pend)), (iv s.act), .pv false (.sl (rws nP s.ents))], .ag [(iv e.kind), .pv false (.sl (nums .u8 e.addr)), (iv e.act), (iv e.val.kind), (iv e.val.n), .pv false (.sl (nums .u8 e.val.s)), .pv false (.sl (rws byP e.val.k)), .pv false (.sl (rws vP e.val.l)), .pv false (.sl (rws byP e.deps))]] [] = some (.tu [.ag [(iv (s.serial + 1)), (bv s.opn), .pv false (.sl (nums .u8 [])), (iv 0), .pv false (.sl (rws nP (s.ents.set i ⟨e.addr, e.val, e.deps, false, s.serial + 1⟩)))], (bv true)], []) := call0 Tryz.func129 (by kernel_rfl) ((show ∀ fn : Func, fn.results = #[.cell 4 48, .tmp 5] → lim C0 129 fn [.c (code Tryz.f129)] ⟨_, _⟩ = _ from fun fn hr => by
 have hp5 := plan129_5
 simp [opsOf, code, Tryz.f129] at hp5
 have hp15 := plan129_15
 simp [opsOf, code, Tryz.f129] at hp15
 have q1 := p127 s hs
 have q2 := p131 s e hs he hi hb false
 rw [hm] at q2
 have hser : 0 ≤ s.serial ∧ s.serial < 1000000 := ⟨hi.ser.1, by simp only [mayS, Bool.and_eq_true, decide_eq_true_eq] at hm; exact hm.1⟩
 have hw : IntKind.i64.wrap (s.serial + 1) = s.serial + 1 := wrap_id' (by omega)
 have hall : ∀ x ∈ s.ents, byteOk x.addr = true := fun x hx => (hs.all x hx).addrB
 have q3 := fun o p a b b0 => p155 (s.serial + 1) o p a s.ents e.addr b hs.ents hall he.addrB b0
 have q4 := p34 false e.addr he.addr
 have q5 := pCopyV e.val he.vl false false false
 have q6 := p36 false e.deps he.dl
 rw [hk, hf] at q3
 simp only [k] at q2
 simp [code, Tryz.f129, hr, hp5, hp15, q1, q2, q3, q4, q5, q6, hw, k, hil]
 rw [List.take_of_length_le (by simp)]
 exact nP_set s.ents ⟨e.addr, e.val, e.deps, false, s.serial + 1⟩ i
 ) Tryz.f129 Tryz.results129)
theorem p129_2b (s : Sta) (e : Ev) (hs : SOk s) (he : EOk e) (hi : InvS s) (hb : evB e = true) (hm : mayS s e = true) (k : e.kind = 2) (i : Nat) (hk : bsN e.addr s.ents 0 s.ents.length = i) (hf : fdN e.addr s.ents i = false) (hil : i ≤ s.ents.length) : phi C0 (lim C0) 129 [.ag [(iv s.serial), (bv s.opn), .pv false (.sl (nums .u8 s.pend)), (iv s.act), .pv false (.sl (rws nP s.ents))], .ag [(iv e.kind), .pv false (.sl (nums .u8 e.addr)), (iv e.act), (iv e.val.kind), (iv e.val.n), .pv false (.sl (nums .u8 e.val.s)), .pv false (.sl (rws byP e.val.k)), .pv false (.sl (rws vP e.val.l)), .pv false (.sl (rws byP e.deps))]] [] = some (.tu [.ag [(iv (s.serial + 1)), (bv s.opn), .pv false (.sl (nums .u8 [])), (iv 0), .pv false (.sl (rws nP (s.ents.take i ++ ⟨e.addr, e.val, e.deps, false, s.serial + 1⟩ :: s.ents.drop i)))], (bv true)], []) := call0 Tryz.func129 (by kernel_rfl) ((show ∀ fn : Func, fn.results = #[.cell 4 48, .tmp 5] → lim C0 129 fn [.c (code Tryz.f129)] ⟨_, _⟩ = _ from fun fn hr => by
 have hp5 := plan129_5
 simp [opsOf, code, Tryz.f129] at hp5
 have hp15 := plan129_15
 simp [opsOf, code, Tryz.f129] at hp15
 have q1 := p127 s hs
 have q2 := p131 s e hs he hi hb false
 rw [hm] at q2
 have hser : 0 ≤ s.serial ∧ s.serial < 1000000 := ⟨hi.ser.1, by simp only [mayS, Bool.and_eq_true, decide_eq_true_eq] at hm; exact hm.1⟩
 have hw : IntKind.i64.wrap (s.serial + 1) = s.serial + 1 := wrap_id' (by omega)
 have hall : ∀ x ∈ s.ents, byteOk x.addr = true := fun x hx => (hs.all x hx).addrB
 have q3 := fun o p a b b0 => p155 (s.serial + 1) o p a s.ents e.addr b hs.ents hall he.addrB b0
 have q4 := p34 false e.addr he.addr
 have q5 := pCopyV e.val he.vl false false false
 have q6 := p36 false e.deps he.dl
 rw [hk, hf] at q3
 simp only [k] at q2
 have q7 := pIns s.ents i ⟨e.addr, e.val, e.deps, false, s.serial + 1⟩ hil hs.ents
 dsimp only at q7
 have c1 : s.ents.length + 1 ≤ i + (s.ents.length - i + 1) := by omega
 have k1 : List.take (s.ents.length + 1) (List.take i s.ents ++ (⟨e.addr, e.val, e.deps, false, s.serial + 1⟩ : En) :: List.drop i s.ents) = List.take i s.ents ++ ⟨e.addr, e.val, e.deps, false, s.serial + 1⟩ :: List.drop i s.ents := List.take_of_length_le (by simp; omega)
 simp [code, Tryz.f129, hr, hp5, hp15, q1, q2, q3, q4, q5, q6, q7, hw, k, hil, c1, k1]
 ) Tryz.f129 Tryz.results129)
theorem p129_3 (s : Sta) (e : Ev) (hs : SOk s) (he : EOk e) (hi : InvS s) (hb : evB e = true) (hm : mayS s e = true) (k : e.kind = 3) (i : Nat) (hk : bsN e.addr s.ents 0 s.ents.length = i) (hil : i < s.ents.length) : phi C0 (lim C0) 129 [.ag [(iv s.serial), (bv s.opn), .pv false (.sl (nums .u8 s.pend)), (iv s.act), .pv false (.sl (rws nP s.ents))], .ag [(iv e.kind), .pv false (.sl (nums .u8 e.addr)), (iv e.act), (iv e.val.kind), (iv e.val.n), .pv false (.sl (nums .u8 e.val.s)), .pv false (.sl (rws byP e.val.k)), .pv false (.sl (rws vP e.val.l)), .pv false (.sl (rws byP e.deps))]] [] = some (.tu [.ag [(iv (s.serial + 1)), (bv s.opn), .pv false (.sl (nums .u8 [])), (iv 0), .pv false (.sl (rws nP (s.ents.eraseIdx i)))], (bv true)], []) := call0 Tryz.func129 (by kernel_rfl) ((show ∀ fn : Func, fn.results = #[.cell 4 48, .tmp 5] → lim C0 129 fn [.c (code Tryz.f129)] ⟨_, _⟩ = _ from fun fn hr => by
 have hp5 := plan129_5
 simp [opsOf, code, Tryz.f129] at hp5
 have hp15 := plan129_15
 simp [opsOf, code, Tryz.f129] at hp15
 have q1 := p127 s hs
 have q2 := p131 s e hs he hi hb false
 rw [hm] at q2
 have hser : 0 ≤ s.serial ∧ s.serial < 1000000 := ⟨hi.ser.1, by simp only [mayS, Bool.and_eq_true, decide_eq_true_eq] at hm; exact hm.1⟩
 have hw : IntKind.i64.wrap (s.serial + 1) = s.serial + 1 := wrap_id' (by omega)
 have hall : ∀ x ∈ s.ents, byteOk x.addr = true := fun x hx => (hs.all x hx).addrB
 have q3 := fun o p a b b0 => p155 (s.serial + 1) o p a s.ents e.addr b hs.ents hall he.addrB b0
 rw [hk] at q3
 have q4 := p159 s.ents i hil hs.ents
 have hw2 : IntKind.i64.wrap ((i : Int) + 1) = i + 1 := wrap_id' (by have := hs.ents; omega)
 have dl : (delN s.ents i).length = s.ents.length := by simp [delN, List.length_eraseIdx_of_lt hil]; omega
 have dt : List.take (s.ents.length - 1) (delN s.ents i) = s.ents.eraseIdx i := List.take_left' (List.length_eraseIdx_of_lt hil)
 simp only [k] at q2
 simp [code, Tryz.f129, hr, hp5, hp15, q1, q2, q3, q4, hw, hw2, k, hil, dl, dt]
 ) Tryz.f129 Tryz.results129)
theorem p129_4n (s : Sta) (e : Ev) (hs : SOk s) (he : EOk e) (hi : InvS s) (hb : evB e = true) (hm : mayS s e = true) (k : e.kind = 4 ∨ e.kind = 6) (hp : s.pend = []) : phi C0 (lim C0) 129 [.ag [(iv s.serial), (bv s.opn), .pv false (.sl (nums .u8 s.pend)), (iv s.act), .pv false (.sl (rws nP s.ents))], .ag [(iv e.kind), .pv false (.sl (nums .u8 e.addr)), (iv e.act), (iv e.val.kind), (iv e.val.n), .pv false (.sl (nums .u8 e.val.s)), .pv false (.sl (rws byP e.val.k)), .pv false (.sl (rws vP e.val.l)), .pv false (.sl (rws byP e.deps))]] [] = some (.tu [.ag [(iv (s.serial + 1)), (bv (decide (e.kind = 4))), .pv false (.sl (nums .u8 [])), (iv 0), .pv false (.sl (rws nP s.ents))], (bv true)], []) := call0 Tryz.func129 (by kernel_rfl) ((show ∀ fn : Func, fn.results = #[.cell 4 48, .tmp 5] → lim C0 129 fn [.c (code Tryz.f129)] ⟨_, _⟩ = _ from fun fn hr => by
 have hp5 := plan129_5
 simp [opsOf, code, Tryz.f129] at hp5
 have hp15 := plan129_15
 simp [opsOf, code, Tryz.f129] at hp15
 have q1 := p127 s hs
 have q2 := p131 s e hs he hi hb false
 rw [hm] at q2
 have hser : 0 ≤ s.serial ∧ s.serial < 1000000 := ⟨hi.ser.1, by simp only [mayS, Bool.and_eq_true, decide_eq_true_eq] at hm; exact hm.1⟩
 have hw : IntKind.i64.wrap (s.serial + 1) = s.serial + 1 := wrap_id' (by omega)
 have hall : ∀ x ∈ s.ents, byteOk x.addr = true := fun x hx => (hs.all x hx).addrB
 have q3 := fun o p a b b0 => p155 (s.serial + 1) o p a s.ents e.addr b hs.ents hall he.addrB b0
 have h0 : e.kind ≠ 0 ∧ e.kind ≠ 1 ∧ e.kind ≠ 2 ∧ e.kind ≠ 3 ∧ e.kind ≠ 5 := by omega
 obtain ⟨k0, k1, k2, k3, k5⟩ := h0
 generalize bsN e.addr s.ents 0 s.ents.length = j at *
 generalize fdN e.addr s.ents j = fj at *
 have q4 := fun r => p160_n (s.serial + 1) s.opn s.pend s.act s.ents hs.ents hall hs.pend hs.pendB r hp
 rcases k with k | k
 · simp only [k] at q2
   simp [code, Tryz.f129, hr, hp5, hp15, q1, q2, q3, q4, hw, k]
   try (rw [List.take_of_length_le (by simp)])
 · simp only [k] at q2
   simp [code, Tryz.f129, hr, hp5, hp15, q1, q2, q3, q4, hw, k]
   try (rw [List.take_of_length_le (by simp)])
 ) Tryz.f129 Tryz.results129)
theorem p129_4a (s : Sta) (e : Ev) (hs : SOk s) (he : EOk e) (hi : InvS s) (hb : evB e = true) (hm : mayS s e = true) (k : e.kind = 4 ∨ e.kind = 6) (hp : s.pend ≠ []) (i : Nat) (x : En) (hk : bsN s.pend s.ents 0 s.ents.length = i) (hx0 : s.ents[i]? = some x) (hf : fdN s.pend s.ents i = true) : phi C0 (lim C0) 129 [.ag [(iv s.serial), (bv s.opn), .pv false (.sl (nums .u8 s.pend)), (iv s.act), .pv false (.sl (rws nP s.ents))], .ag [(iv e.kind), .pv false (.sl (nums .u8 e.addr)), (iv e.act), (iv e.val.kind), (iv e.val.n), .pv false (.sl (nums .u8 e.val.s)), .pv false (.sl (rws byP e.val.k)), .pv false (.sl (rws vP e.val.l)), .pv false (.sl (rws byP e.deps))]] [] = some (.tu [.ag [(iv (s.serial + 1)), (bv (decide (e.kind = 4))), .pv false (.sl (nums .u8 [])), (iv 0), .pv false (.sl (rws nP (s.ents.set i (tntE (s.serial + 1) x))))], (bv true)], []) := call0 Tryz.func129 (by kernel_rfl) ((show ∀ fn : Func, fn.results = #[.cell 4 48, .tmp 5] → lim C0 129 fn [.c (code Tryz.f129)] ⟨_, _⟩ = _ from fun fn hr => by
 have hp5 := plan129_5
 simp [opsOf, code, Tryz.f129] at hp5
 have hp15 := plan129_15
 simp [opsOf, code, Tryz.f129] at hp15
 have q1 := p127 s hs
 have q2 := p131 s e hs he hi hb false
 rw [hm] at q2
 have hser : 0 ≤ s.serial ∧ s.serial < 1000000 := ⟨hi.ser.1, by simp only [mayS, Bool.and_eq_true, decide_eq_true_eq] at hm; exact hm.1⟩
 have hw : IntKind.i64.wrap (s.serial + 1) = s.serial + 1 := wrap_id' (by omega)
 have hall : ∀ x ∈ s.ents, byteOk x.addr = true := fun x hx => (hs.all x hx).addrB
 have q3 := fun o p a b b0 => p155 (s.serial + 1) o p a s.ents e.addr b hs.ents hall he.addrB b0
 have h0 : e.kind ≠ 0 ∧ e.kind ≠ 1 ∧ e.kind ≠ 2 ∧ e.kind ≠ 3 ∧ e.kind ≠ 5 := by omega
 obtain ⟨k0, k1, k2, k3, k5⟩ := h0
 generalize bsN e.addr s.ents 0 s.ents.length = j at *
 generalize fdN e.addr s.ents j = fj at *
 have q4 := fun r => p160_a (s.serial + 1) s.opn s.pend s.act s.ents hs.ents hall hs.pend hs.pendB r hp i x hk hx0 hf
 rcases k with k | k
 · simp only [k] at q2
   simp [code, Tryz.f129, hr, hp5, hp15, q1, q2, q3, q4, hw, k]
   try (rw [List.take_of_length_le (by simp)])
 · simp only [k] at q2
   simp [code, Tryz.f129, hr, hp5, hp15, q1, q2, q3, q4, hw, k]
   try (rw [List.take_of_length_le (by simp)])
 ) Tryz.f129 Tryz.results129)
theorem p129_4c (s : Sta) (e : Ev) (hs : SOk s) (he : EOk e) (hi : InvS s) (hb : evB e = true) (hm : mayS s e = true) (k : e.kind = 4) (hp : s.pend ≠ []) (hf : fdN s.pend s.ents (bsN s.pend s.ents 0 s.ents.length) = false) : phi C0 (lim C0) 129 [.ag [(iv s.serial), (bv s.opn), .pv false (.sl (nums .u8 s.pend)), (iv s.act), .pv false (.sl (rws nP s.ents))], .ag [(iv e.kind), .pv false (.sl (nums .u8 e.addr)), (iv e.act), (iv e.val.kind), (iv e.val.n), .pv false (.sl (nums .u8 e.val.s)), .pv false (.sl (rws byP e.val.k)), .pv false (.sl (rws vP e.val.l)), .pv false (.sl (rws byP e.deps))]] [] = some (.tu [.ag [(iv (s.serial + 1)), (bv true), .pv false (.sl (nums .u8 [])), (iv 0), .pv false (.sl (rws nP s.ents))], (bv true)], []) := call0 Tryz.func129 (by kernel_rfl) ((show ∀ fn : Func, fn.results = #[.cell 4 48, .tmp 5] → lim C0 129 fn [.c (code Tryz.f129)] ⟨_, _⟩ = _ from fun fn hr => by
 have hp5 := plan129_5
 simp [opsOf, code, Tryz.f129] at hp5
 have hp15 := plan129_15
 simp [opsOf, code, Tryz.f129] at hp15
 have q1 := p127 s hs
 have q2 := p131 s e hs he hi hb false
 rw [hm] at q2
 have hser : 0 ≤ s.serial ∧ s.serial < 1000000 := ⟨hi.ser.1, by simp only [mayS, Bool.and_eq_true, decide_eq_true_eq] at hm; exact hm.1⟩
 have hw : IntKind.i64.wrap (s.serial + 1) = s.serial + 1 := wrap_id' (by omega)
 have hall : ∀ x ∈ s.ents, byteOk x.addr = true := fun x hx => (hs.all x hx).addrB
 have q3 := fun o p a b b0 => p155 (s.serial + 1) o p a s.ents e.addr b hs.ents hall he.addrB b0
 have q4 := p160_c (s.serial + 1) s.opn s.pend s.act s.ents hs.ents hall hs.pend hs.pendB hp hf
 simp only [k] at q2
 simp [code, Tryz.f129, hr, hp5, hp15, q1, q2, q3, q4, hw, k]
 ) Tryz.f129 Tryz.results129)
theorem p129_6b (s : Sta) (e : Ev) (hs : SOk s) (he : EOk e) (hi : InvS s) (hb : evB e = true) (hm : mayS s e = true) (k : e.kind = 6) (hp : s.pend ≠ []) (i : Nat) (hk : bsN s.pend s.ents 0 s.ents.length = i) (hil : i ≤ s.ents.length) (hf : fdN s.pend s.ents i = false) : phi C0 (lim C0) 129 [.ag [(iv s.serial), (bv s.opn), .pv false (.sl (nums .u8 s.pend)), (iv s.act), .pv false (.sl (rws nP s.ents))], .ag [(iv e.kind), .pv false (.sl (nums .u8 e.addr)), (iv e.act), (iv e.val.kind), (iv e.val.n), .pv false (.sl (nums .u8 e.val.s)), .pv false (.sl (rws byP e.val.k)), .pv false (.sl (rws vP e.val.l)), .pv false (.sl (rws byP e.deps))]] [] = some (.tu [.ag [(iv (s.serial + 1)), (bv false), .pv false (.sl (nums .u8 [])), (iv 0), .pv false (.sl (rws nP (s.ents.take i ++ ⟨s.pend, ⟨5, 0, [], [], []⟩, [], true, s.serial + 1⟩ :: s.ents.drop i)))], (bv true)], []) := call0 Tryz.func129 (by kernel_rfl) ((show ∀ fn : Func, fn.results = #[.cell 4 48, .tmp 5] → lim C0 129 fn [.c (code Tryz.f129)] ⟨_, _⟩ = _ from fun fn hr => by
 have hp5 := plan129_5
 simp [opsOf, code, Tryz.f129] at hp5
 have hp15 := plan129_15
 simp [opsOf, code, Tryz.f129] at hp15
 have q1 := p127 s hs
 have q2 := p131 s e hs he hi hb false
 rw [hm] at q2
 have hser : 0 ≤ s.serial ∧ s.serial < 1000000 := ⟨hi.ser.1, by simp only [mayS, Bool.and_eq_true, decide_eq_true_eq] at hm; exact hm.1⟩
 have hw : IntKind.i64.wrap (s.serial + 1) = s.serial + 1 := wrap_id' (by omega)
 have hall : ∀ x ∈ s.ents, byteOk x.addr = true := fun x hx => (hs.all x hx).addrB
 have q3 := fun o p a b b0 => p155 (s.serial + 1) o p a s.ents e.addr b hs.ents hall he.addrB b0
 have q4 := p160_b (s.serial + 1) s.opn s.pend s.act s.ents hs.ents hall hs.pend hs.pendB hp i hk hil hf
 simp only [k] at q2
 have c1 : s.ents.length + 1 ≤ i + (s.ents.length - i + 1) := by omega
 have k1 : List.take (s.ents.length + 1) (List.take i s.ents ++ (⟨s.pend, .mk 5 0 [] [] [], [], true, s.serial + 1⟩ : En) :: List.drop i s.ents) = List.take i s.ents ++ ⟨s.pend, .mk 5 0 [] [] [], [], true, s.serial + 1⟩ :: List.drop i s.ents := List.take_of_length_le (by simp; omega)
 generalize bsN e.addr s.ents 0 s.ents.length = bj at *
 generalize fdN e.addr s.ents bj = fj at *
 simp [code, Tryz.f129, hr, hp5, hp15, q1, q2, q3, q4, hw, k, hil, c1, k1]
 ) Tryz.f129 Tryz.results129)
end Go.Proofs.YtgbfmdihmnpcdaaGreatDoor
