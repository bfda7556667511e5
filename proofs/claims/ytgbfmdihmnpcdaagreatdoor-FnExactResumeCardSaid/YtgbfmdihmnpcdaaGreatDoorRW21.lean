/- An entry is left away; events that fit, by the program. -/
import Derived.Test.YtgbfmdihmnpcdaaGreatDoorRW20
import Derived.Test.YtgbfmdihmnpcdaaGreatDoorRW17
import Derived.Test.YtgbfmdihmnpcdaaGreatDoorRW19
namespace Go.Proofs.YtgbfmdihmnpcdaaGreatDoor
open Go Go.Pm Go.Proofs
set_option linter.unusedVariables false
set_option linter.unusedSimpArgs false
set_option maxRecDepth 100000
set_option maxHeartbeats 4000000
def zeroN : En := ⟨[], .mk 0 0 [] [] [], [], false, 0⟩
def delN (l : List En) (i : Nat) : List En := l.eraseIdx i ++ [zeroN]
theorem nP_all (l : List En) : ∀ r ∈ rws nP l, r.length = 9 := rws_all _ _ fun x => by simp
theorem p159 (l : List En) (i : Nat) (hi : i < l.length) (hl : l.length ≤ 1048576) : phi C0 (lim C0) 159 [.ref 0 0 l.length, (iv ((i : Nat))), (iv ((i : Int) + 1))] [(0, .row .io 162 9 (rws nP l))] = some (.ref 0 0 (l.length - 1), [(0, .row .io 162 9 (rws nP (delN l i)))]) := call0 Tryz.func159 (by kernel_rfl) ((show ∀ fn : Func, fn.results = #[.tmp 6] → lim C0 159 fn [.c (code Tryz.f159)] ⟨_, _⟩ = _ from fun fn hr => by
 have hp5 := plan159_5
 simp [opsOf, code, Tryz.f159] at hp5
 have c1 : (0 : Int) ≤ (i : Int) + 1 := by omega
 have c2 : (i : Int) + 1 ≤ (l.length : Int) := by omega
 have c3 : ((i : Int) + 1).toNat = i + 1 := by omega
 have c4 : ¬ (i : Int) = (i : Int) + 1 := by omega
 have c5 : (i : Int) ≤ (i : Int) + 1 := by omega
 have c6 : (i : Int) ≤ (l.length : Int) := by omega
 have c8 : i + 1 + (l.length - (i + 1)) ≤ l.length := by omega
 have c9 : List.take (l.length - (i + 1)) (List.drop (i + 1) l) = List.drop (i + 1) l := List.take_of_length_le (by simp)
 have c10 : i + (l.length - (i + 1)) = l.length - 1 := by omega
 have c11 : l.length - 1 ≤ l.length := by omega
 have c12 : (∀ (r : List PV), r ∈ rws nP (List.drop (i + 1) l) → r.length = 9) = True := eq_true (nP_all _)
 have c13 : ¬ l.length ≤ l.length - 1 := by omega
 have c14 : l.length ≤ i + (l.length - (i + 1) + 1) := by omega
 have c15 : l.length - (l.length - 1) = 1 := by omega
 have c16 : min i l.length = i := by omega
 have c17 : l.length - 1 + 1 = l.length := by omega
 have c18 : Spare i l.length = True := eq_true hi
 have hlen : (l.eraseIdx i).length = l.length - 1 := List.length_eraseIdx_of_lt hi
 have c19 : List.take (l.length - 1) (l.eraseIdx i ++ List.drop (l.length - 1) l) = l.eraseIdx i := List.take_left' hlen
 simp [code, Tryz.f159, hr, hp5, c1, c2, c3, c4, c5, c6, hi, c8, c9, c10, c11, c12, c13, c14, c15, c16, c17, c18, hlen]
 have hA : List.take i l ++ List.drop (i + 1) l = l.eraseIdx i := (List.eraseIdx_eq_take_drop_succ ..).symm
 rw [← List.append_assoc, hA, List.take_left' hlen, List.drop_eq_nil_of_le (by simp [hlen]), delN, ← rws_app]
 rfl
 ) Tryz.f159 Tryz.results159)
theorem p156 (x : En) (hx : NOk x) : phi C0 (lim C0) 156 [.ag [.pv false (.sl (nums .u8 x.addr)), (iv x.val.kind), (iv x.val.n), .pv false (.sl (nums .u8 x.val.s)), .pv false (.sl (rws byP x.val.k)), .pv false (.sl (rws vP x.val.l)), .pv false (.sl (rws byP x.deps)), (bv x.taint), (iv x.turned)]] [] = some (.ag [.pv false (.sl (nums .u8 x.addr)), (iv x.val.kind), (iv x.val.n), .pv false (.sl (nums .u8 x.val.s)), .pv false (.sl (rws byP x.val.k)), .pv false (.sl (rws vP x.val.l)), .pv false (.sl (rws byP x.deps)), (bv x.taint), (iv x.turned)], []) := call0 Tryz.func156 (by kernel_rfl) ((show ∀ fn : Func, fn.results = #[.cell 2 162] → lim C0 156 fn [.c (code Tryz.f156)] ⟨_, _⟩ = _ from fun fn hr => by
 have hp1 := plan156_1
 simp [opsOf, code, Tryz.f156] at hp1
 have q1 := p34 false x.addr hx.addr
 have q2 := pCopyV x.val hx.vl false false false
 have q3 := p36 false x.deps hx.dl
 simp [code, Tryz.f156, hr, hp1, q1, q2, q3]
 ) Tryz.f156 Tryz.results156)
theorem p127 (s : Sta) (hs : SOk s) : phi C0 (lim C0) 127 [.ag [(iv s.serial), (bv s.opn), .pv false (.sl (nums .u8 s.pend)), (iv s.act), .pv false (.sl (rws nP s.ents))]] [] = some (.ag [(iv s.serial), (bv s.opn), .pv false (.sl (nums .u8 s.pend)), (iv s.act), .ref 16 0 s.ents.length], [(16, .row .own 162 9 (rws nP s.ents))]) := call0 Tryz.func127 (by kernel_rfl) ((show ∀ fn : Func, fn.results = #[.cell 2 48] → globs fn = [0, 1, 19, 18, 20, 17, 3, 5, 2] → lim C0 127 fn [.c (code Tryz.f127)] ⟨_, _⟩ = _ from fun fn hr hg => by
 have hp1 := plan127_1
 simp [opsOf, code, Tryz.f127] at hp1
 have hp5 := plan127_5
 simp [opsOf, code, Tryz.f127] at hp5
 have q1 := p34 false s.pend hs.pend
 have h1 : s.ents.length ≤ 1048576 := hs.ents
 simp [code, Tryz.f127, hr, hg, hp1, hp5, q1]
 refine (loop_to (s0 := ?s1) (fun x => s.ents.length - x.1) (fun x => [(19, (iv ((x.1 : Nat))))]) (fun x => [(16, .box [(iv s.serial), (bv s.opn), .pv false (.sl (nums .u8 s.pend)), (iv s.act), .pv false (.sl (rws nP s.ents))]), (18, .box [(iv 0), (bv false), .nl, (iv 0), .nl]), (20, .box [(iv s.serial), (bv s.opn), .pv false (.sl (nums .u8 s.pend)), (iv s.act), slT 22 (x.2)])] ++ slH 22 162 9 nP (x.2)) (fun x K => K [(19, (iv s.ents.length))] ([(16, .box [(iv s.serial), (bv s.opn), .pv false (.sl (nums .u8 s.pend)), (iv s.act), .pv false (.sl (rws nP s.ents))]), (18, .box [(iv 0), (bv false), .nl, (iv 0), .nl]), (20, .box [(iv s.serial), (bv s.opn), .pv false (.sl (nums .u8 s.pend)), (iv s.act), slT 22 (x.2 ++ s.ents.drop x.1)])] ++ slH 22 162 9 nP (x.2 ++ s.ents.drop x.1))) (fun x => x.1 ≤ s.ents.length ∧ x.2.length = x.1) ((0 : Nat), ([] : List En)) ?hc1 ?h01 ?hs1 ?step1).trans ?r1
 case hc1 => simp; rfl
 case h01 => first | (simp; done) | (simp [*]; done) | exact ⟨by simp, ⟨rfl⟩⟩ | grind | (simp; omega)
 case hs1 => first | (simp; done) | (simp [*]; done)
 case r1 => cases hk : s.ents <;> simp [hg, hk, hr, hg, hp1, hp5]
 rintro k ⟨i, acc⟩ ⟨hi, ha⟩ ih
 simp at hi ha
 simp [hg]
 rcases acc with _ | ⟨a0, acc⟩
 · have hi0 : i = 0 := by simpa using ha.symm
   subst hi0
   by_cases h : 0 < s.ents.length
   · have q := p156 s.ents[0] (hs.all _ (List.getElem_mem h))
     have m3 : 152 ≤ Pm.roomBytes := by unfold Pm.roomBytes; omega
     have m4 : 1 ≤ Pm.maxL := by unfold Pm.maxL; omega
     have e5 : ([s.ents[0]] : List En) ++ List.drop 1 s.ents = s.ents := (drop_at h).symm
     simp [hg, q, h, m3, m4, hr, hg, hp1, hp5]
     try simp (disch := omega) only [wrap_id']
     refine (ih.out (1, [s.ents[0]]) _ ?_ ?_ ?_).trans ?_
     · simp [hg]; omega
     · simp [hg]; omega
     · simp [hg]
     · dsimp only
       rw [e5]
       simp [hg]
   · have e : s.ents = [] := List.length_eq_zero_iff.1 (by omega)
     simp [hg, e]
 · simp at ha
   simp [hg]
   by_cases h : i < s.ents.length
   · have q := p156 s.ents[i] (hs.all _ (List.getElem_mem h))
     have m2 : Spare (acc.length + 1) (acc.length + 1) = False := eq_false (Nat.lt_irrefl _)
     obtain ⟨m3, m4, _, _⟩ := room152 (by omega : acc.length ≤ i) hi h1
     have e3 := nP_snoc (a0 :: acc) s.ents[i]
     have e4 := drop_at h
     simp [hg, q, h, m2, m3, m4, e3, hr, hg, hp1, hp5]
     try simp (disch := omega) only [wrap_id']
     refine (ih.out (i + 1, a0 :: (acc ++ [s.ents[i]])) _ ?_ ?_ ?_).trans ?_
     · simp [hg]; omega
     · simp [hg]; omega
     · simp [hg, e3]
     · dsimp only
       simp [hg]
       try rw [e4]
       try simp [hg]
   · have e : i = s.ents.length := by omega
     subst e
     simp [hg]
 ) Tryz.f127 Tryz.results127 gl127)
theorem p131 (s : Sta) (e : Ev) (hs : SOk s) (he : EOk e) (hi : InvS s) (hb : evB e = true) (b0 : Bool) : phi C0 (lim C0) 131 [.ag [(iv s.serial), (bv s.opn), .pv false (.sl (nums .u8 s.pend)), (iv s.act), .pv b0 (.sl (rws nP s.ents))], .ag [(iv e.kind), .pv false (.sl (nums .u8 e.addr)), (iv e.act), (iv e.val.kind), (iv e.val.n), .pv false (.sl (nums .u8 e.val.s)), .pv false (.sl (rws byP e.val.k)), .pv false (.sl (rws vP e.val.l)), .pv false (.sl (rws byP e.deps))]] [] = some ((bv (mayS s e)), []) := call0 Tryz.func131 (by kernel_rfl) ((show ∀ fn : Func, fn.results = #[.tmp 4] → lim C0 131 fn [.c (code Tryz.f131)] ⟨_, _⟩ = _ from fun fn hr => by
 have hp1 := plan131_1
 simp [opsOf, code, Tryz.f131] at hp1
 obtain ⟨n, o, p, a, l⟩ := s
 have q1 := fun b => p155 n o p a l e.addr b hs.ents (fun x hx => (hs.all x hx).addrB) he.addrB b0
 rw [fdN_hasN hi.srt] at q1
 have q2 := fun b b' => p32 b b' p e.addr hs.pendB he.addrB
 obtain ⟨hk, ha, h1, h2⟩ := evB_kind hb
 have hser := hi.ser
 have hl := hs.ents
 dsimp only at *
 generalize bsN e.addr l 0 l.length = bi at *
 by_cases hm : n = 1000000
 · subst hm
   simp [code, Tryz.f131, hr, hp1, q1, q2, mayS]
 have hm2 : n < 1000000 := by omega
 have eM : mayS ⟨n, o, p, a, l⟩ e = (if e.kind = 0 then !o
 else if e.kind = 1 then o && (decide (p = []) && ((hasN e.addr l == decide (e.act ≠ 1)) && (hasN e.addr l || decide (l.length < 16))))
 else if e.kind = 2 then decide (p ≠ []) && (decide (p = e.addr) && decide (a ≠ 4))
 else if e.kind = 3 then decide (p ≠ []) && (decide (p = e.addr) && decide (a = 4))
 else if e.kind = 4 then decide (p ≠ []) && decide (p = e.addr)
 else if e.kind = 5 then o && decide (p = [])
 else o) := by simp [mayS, hm2]
 rw [eM]
 clear eM
 generalize hasN e.addr l = hN at *
 have hpl : p ≠ [] → 0 < p.length ∧ ¬ p.length = 0 := fun h => ⟨List.length_pos_iff.2 h, fun h2 => h (List.length_eq_zero_iff.1 h2)⟩
 rcases hk with k | k | k | k | k | k | k
 · simp [code, Tryz.f131, hr, hp1, q1, q2, hm, k]
 · cases o
   · simp [code, Tryz.f131, hr, hp1, q1, q2, hm, k]
   by_cases hp : p = []
   · subst hp
     simp only [rws_nil] at q1
     cases hN <;> by_cases ha1 : e.act = 1
     · by_cases hl16 : l.length < 16
       · have hl2 : (l.length : Int) < 16 := by omega
         simp [code, Tryz.f131, hr, hp1, q1, q2, hm, k, ha1, hl16, hl2]
       · have hl2 : ¬ (l.length : Int) < 16 := by omega
         simp [code, Tryz.f131, hr, hp1, q1, q2, hm, k, ha1, hl16, hl2]
     · simp [code, Tryz.f131, hr, hp1, q1, q2, hm, k, ha1]
     · simp [code, Tryz.f131, hr, hp1, q1, q2, hm, k, ha1]
     · simp [code, Tryz.f131, hr, hp1, q1, q2, hm, k, ha1]
   · obtain ⟨hp1, hp2⟩ := hpl hp
     simp [code, Tryz.f131, hr, hp1, q1, q2, hm, k, hp, hp1, hp2]
 · have hne : e.addr ≠ [] := fun h => by have := ha.1 h; omega
   by_cases hpe : p = e.addr
   · subst hpe
     by_cases ha4 : a = 4
     · subst ha4
       simp [code, Tryz.f131, hr, hp1, q1, q2, hm, k, hne]
     · simp [code, Tryz.f131, hr, hp1, q1, q2, hm, k, ha4, hne]
   · simp [code, Tryz.f131, hr, hp1, q1, q2, hm, k, hpe]
 · have hne : e.addr ≠ [] := fun h => by have := ha.1 h; omega
   by_cases hpe : p = e.addr
   · subst hpe
     by_cases ha4 : a = 4
     · subst ha4
       simp [code, Tryz.f131, hr, hp1, q1, q2, hm, k, hne]
     · simp [code, Tryz.f131, hr, hp1, q1, q2, hm, k, ha4, hne]
   · simp [code, Tryz.f131, hr, hp1, q1, q2, hm, k, hpe]
 · have hne : e.addr ≠ [] := fun h => by have := ha.1 h; omega
   simp [code, Tryz.f131, hr, hp1, q1, q2, hm, k]
   intro h
   rw [h]
   exact hne
 · cases o
   · simp [code, Tryz.f131, hr, hp1, q1, q2, hm, k]
   by_cases hp : p = []
   · subst hp
     simp only [rws_nil] at q1
     simp [code, Tryz.f131, hr, hp1, q1, q2, hm, k]
   · obtain ⟨hp1, hp2⟩ := hpl hp
     simp [code, Tryz.f131, hr, hp1, q1, q2, hm, k, hp, hp1, hp2]
 · simp [code, Tryz.f131, hr, hp1, q1, q2, hm, k]
 ) Tryz.f131 Tryz.results131)
end Go.Proofs.YtgbfmdihmnpcdaaGreatDoor
