/- All events one by one, by the reference: which histories are ok. -/
import Derived.Test.YtgbfmdihmnpcdaaGreatDoorRW16
import Derived.Test.YtgbfmdihmnpcdaaGreatDoorRW26
import Derived.Test.YtgbfmdihmnpcdaaGreatDoorRW25
namespace Go.Proofs.YtgbfmdihmnpcdaaGreatDoor
open Go Go.Pm Go.Proofs
set_option linter.unusedVariables false
set_option linter.unusedSimpArgs false
set_option maxRecDepth 100000
set_option maxHeartbeats 4000000
theorem pL4_d (s : Sta) (e : Ev) (hs : SOk s) (he : EOk e) (hi : InvS s) (hb : evB e = true) (hm : mayS s e = true) : ((doS s e).ents = s.ents ∧ phi C0 (lim C0) 123 [.bp 0 0, .ag [(iv e.kind), .pv false (.sl (nums .u8 e.addr)), (iv e.act), (iv e.val.kind), (iv e.val.n), .pv false (.sl (nums .u8 e.val.s)), .pv false (.sl (rws byP e.val.k)), .pv false (.sl (rws vP e.val.l)), .pv false (.sl (rws byP e.deps))]] [(0, .box [(iv s.serial), (bv s.opn), .pv false (.sl (nums .u8 s.pend)), (iv s.act), .pv false (.sl (rws nP s.ents))])] = some (.tu [], [(0, .box [(iv ((doS s e).serial)), (bv ((doS s e).opn)), .pv false (.sl (nums .u8 (doS s e).pend)), (iv ((doS s e).act)), .pv false (.sl (rws nP s.ents))])])) ∨ ((doS s e).ents = s.ents ∧ (doS s e).pend = [] ∧ phi C0 (lim C0) 123 [.bp 0 0, .ag [(iv e.kind), .pv false (.sl (nums .u8 e.addr)), (iv e.act), (iv e.val.kind), (iv e.val.n), .pv false (.sl (nums .u8 e.val.s)), .pv false (.sl (rws byP e.val.k)), .pv false (.sl (rws vP e.val.l)), .pv false (.sl (rws byP e.deps))]] [(0, .box [(iv s.serial), (bv s.opn), .pv false (.sl (nums .u8 s.pend)), (iv s.act), .pv false (.sl (rws nP s.ents))])] = some (.tu [], [(0, .box [(iv ((doS s e).serial)), (bv ((doS s e).opn)), .nl, (iv ((doS s e).act)), .pv false (.sl (rws nP s.ents))])])) ∨ ((doS s e).pend = [] ∧ phi C0 (lim C0) 123 [.bp 0 0, .ag [(iv e.kind), .pv false (.sl (nums .u8 e.addr)), (iv e.act), (iv e.val.kind), (iv e.val.n), .pv false (.sl (nums .u8 e.val.s)), .pv false (.sl (rws byP e.val.k)), .pv false (.sl (rws vP e.val.l)), .pv false (.sl (rws byP e.deps))]] [(0, .box [(iv s.serial), (bv s.opn), .pv false (.sl (nums .u8 s.pend)), (iv s.act), .pv false (.sl (rws nP s.ents))])] = some (.tu [], [(0, .box [(iv ((doS s e).serial)), (bv ((doS s e).opn)), .nl, (iv ((doS s e).act)), .ref 18 0 (doS s e).ents.length]), (18, .row .own 162 9 (rws nP (doS s e).ents))])) := by
 have hser : 0 ≤ s.serial ∧ s.serial < 1000000 := ⟨hi.ser.1, by simp only [mayS, Bool.and_eq_true, decide_eq_true_eq] at hm; exact hm.1⟩
 obtain ⟨hk, ha, h1, h2⟩ := evB_kind hb
 rcases hk with k | k | k | k | k | k | k
 · refine .inl ⟨by simp [doS, k], ?_⟩
   rw [p123_0d s e hs he hser k]
   simp [doS, k]
 · refine .inl ⟨by simp [doS, k], ?_⟩
   rw [p123_1d s e hs he hser k]
   simp [doS, k]
 · refine .inr (.inr ⟨by simp [doS, k], ?_⟩)
   rw [p123_2d s e hs he hser k]
   simp [doS, k]
 · have hm3 := hm
   simp [mayS, k] at hm3
   obtain ⟨_, hp, hpe, hact⟩ := hm3
   have h0 := fndN_has s.pend s.ents 0
   rw [(hi.opn hp).2, hact] at h0
   have h0 : 0 ≤ fndN s.pend s.ents 0 := of_decide_eq_true (h0.trans rfl)
   obtain ⟨j, hj⟩ := Int.eq_ofNat_of_zero_le h0
   have hlt := fndN_lt s.pend s.ents 0
   have hjl : j < s.ents.length := by rw [hj] at hlt; omega
   refine .inr (.inr ⟨by simp [doS, k, hj], ?_⟩)
   rw [p123_3d s e hs he hser k j hj hjl]
   simp [doS, k, hj]
 · have hm3 := hm
   simp [mayS, k] at hm3
   obtain ⟨_, hp, hpe⟩ := hm3
   have ho := (hi.opn hp).1
   by_cases h0 : 0 ≤ fndN s.pend s.ents 0
   · obtain ⟨j, hj⟩ := Int.eq_ofNat_of_zero_le h0
     have hlt := fndN_lt s.pend s.ents 0
     have hjl : j < s.ents.length := by rw [hj] at hlt; omega
     have hx := List.getElem?_eq_getElem hjl
     refine .inr (.inr ⟨by simp [doS, k, tntS, hp, hj, hx, ho], ?_⟩)
     rw [p123_46ad s e hs he hser (.inl k) hp j hj _ hx]
     simp [doS, k, tntS, hp, hj, hx, ho]
   · refine .inr (.inl ⟨by simp [doS, k, tntS, hp, h0, ho], by simp [doS, k, tntS, hp, h0, ho], ?_⟩)
     rw [p123_4cd s e hs he hser k hp h0]
     simp [doS, k, tntS, hp, h0, ho]
 · refine .inr (.inl ⟨by simp [doS, k], by simp [doS, k], ?_⟩)
   rw [p123_5d s e hs he hser k]
   simp [doS, k]
 · by_cases hp : s.pend = []
   · refine .inr (.inl ⟨by simp [doS, k, tntS, hp], by simp [doS, k, tntS, hp], ?_⟩)
     rw [p123_46nd s e hs he hser (.inr k) hp]
     simp [doS, k, tntS, hp]
   by_cases h0 : 0 ≤ fndN s.pend s.ents 0
   · obtain ⟨j, hj⟩ := Int.eq_ofNat_of_zero_le h0
     have hlt := fndN_lt s.pend s.ents 0
     have hjl : j < s.ents.length := by rw [hj] at hlt; omega
     have hx := List.getElem?_eq_getElem hjl
     refine .inr (.inr ⟨by simp [doS, k, tntS, hp, hj, hx], ?_⟩)
     rw [p123_46ad s e hs he hser (.inr k) hp j hj _ hx]
     simp [doS, k, tntS, hp, hj, hx]
   · refine .inr (.inr ⟨by simp [doS, k, tntS, hp, h0], ?_⟩)
     rw [p123_6bd s e hs he hser k hp h0]
     simp [doS, k, tntS, hp, h0]
theorem pL4_dz (s : Sta) (e : Ev) (hs : SOk s) (he : EOk e) (hi : InvS s) (hb : evB e = true) (hm : mayS s e = true) (hz : s.pend = []) : ((doS s e).ents = s.ents ∧ phi C0 (lim C0) 123 [.bp 0 0, .ag [(iv e.kind), .pv false (.sl (nums .u8 e.addr)), (iv e.act), (iv e.val.kind), (iv e.val.n), .pv false (.sl (nums .u8 e.val.s)), .pv false (.sl (rws byP e.val.k)), .pv false (.sl (rws vP e.val.l)), .pv false (.sl (rws byP e.deps))]] [(0, .box [(iv s.serial), (bv s.opn), .nl, (iv s.act), .pv false (.sl (rws nP s.ents))])] = some (.tu [], [(0, .box [(iv ((doS s e).serial)), (bv ((doS s e).opn)), .pv false (.sl (nums .u8 (doS s e).pend)), (iv ((doS s e).act)), .pv false (.sl (rws nP s.ents))])])) ∨ ((doS s e).ents = s.ents ∧ (doS s e).pend = [] ∧ phi C0 (lim C0) 123 [.bp 0 0, .ag [(iv e.kind), .pv false (.sl (nums .u8 e.addr)), (iv e.act), (iv e.val.kind), (iv e.val.n), .pv false (.sl (nums .u8 e.val.s)), .pv false (.sl (rws byP e.val.k)), .pv false (.sl (rws vP e.val.l)), .pv false (.sl (rws byP e.deps))]] [(0, .box [(iv s.serial), (bv s.opn), .nl, (iv s.act), .pv false (.sl (rws nP s.ents))])] = some (.tu [], [(0, .box [(iv ((doS s e).serial)), (bv ((doS s e).opn)), .nl, (iv ((doS s e).act)), .pv false (.sl (rws nP s.ents))])])) ∨ ((doS s e).pend = [] ∧ phi C0 (lim C0) 123 [.bp 0 0, .ag [(iv e.kind), .pv false (.sl (nums .u8 e.addr)), (iv e.act), (iv e.val.kind), (iv e.val.n), .pv false (.sl (nums .u8 e.val.s)), .pv false (.sl (rws byP e.val.k)), .pv false (.sl (rws vP e.val.l)), .pv false (.sl (rws byP e.deps))]] [(0, .box [(iv s.serial), (bv s.opn), .nl, (iv s.act), .pv false (.sl (rws nP s.ents))])] = some (.tu [], [(0, .box [(iv ((doS s e).serial)), (bv ((doS s e).opn)), .nl, (iv ((doS s e).act)), .ref 18 0 (doS s e).ents.length]), (18, .row .own 162 9 (rws nP (doS s e).ents))])) := by
 have hser : 0 ≤ s.serial ∧ s.serial < 1000000 := ⟨hi.ser.1, by simp only [mayS, Bool.and_eq_true, decide_eq_true_eq] at hm; exact hm.1⟩
 obtain ⟨hk, ha, h1, h2⟩ := evB_kind hb
 rcases hk with k | k | k | k | k | k | k
 · refine .inr (.inl ⟨by simp [doS, k, hz], by simp [doS, k, hz], ?_⟩)
   rw [p123_0dz s e hs he hser hz k]
   simp [doS, k, hz]
 · refine .inl ⟨by simp [doS, k], ?_⟩
   rw [p123_1dz s e hs he hser hz k]
   simp [doS, k]
 · simp [mayS, k, hz] at hm
 · simp [mayS, k, hz] at hm
 · simp [mayS, k, hz] at hm
 · refine .inr (.inl ⟨by simp [doS, k], by simp [doS, k], ?_⟩)
   rw [p123_5dz s e hs he hser hz k]
   simp [doS, k]
 · refine .inr (.inl ⟨by simp [doS, k, tntS, hz], by simp [doS, k, tntS, hz], ?_⟩)
   rw [p123_6ndz s e hs he hser hz k]
   simp [doS, k, tntS, hz]
theorem pL4_o (s : Sta) (e : Ev) (hs : SOk s) (he : EOk e) (hi : InvS s) (hb : evB e = true) (hm : mayS s e = true) : ((doS s e).ents = s.ents ∧ phi C0 (lim C0) 123 [.bp 0 0, .ag [(iv e.kind), .pv false (.sl (nums .u8 e.addr)), (iv e.act), (iv e.val.kind), (iv e.val.n), .pv false (.sl (nums .u8 e.val.s)), .pv false (.sl (rws byP e.val.k)), .pv false (.sl (rws vP e.val.l)), .pv false (.sl (rws byP e.deps))]] [(0, .box [(iv s.serial), (bv s.opn), .pv false (.sl (nums .u8 s.pend)), (iv s.act), .ref 1 0 s.ents.length]), (1, .row .io 162 9 (rws nP s.ents))] = some (.tu [], [(0, .box [(iv ((doS s e).serial)), (bv ((doS s e).opn)), .pv false (.sl (nums .u8 (doS s e).pend)), (iv ((doS s e).act)), .ref 1 0 s.ents.length]), (1, .row .io 162 9 (rws nP s.ents))])) ∨ ((doS s e).ents = s.ents ∧ (doS s e).pend = [] ∧ phi C0 (lim C0) 123 [.bp 0 0, .ag [(iv e.kind), .pv false (.sl (nums .u8 e.addr)), (iv e.act), (iv e.val.kind), (iv e.val.n), .pv false (.sl (nums .u8 e.val.s)), .pv false (.sl (rws byP e.val.k)), .pv false (.sl (rws vP e.val.l)), .pv false (.sl (rws byP e.deps))]] [(0, .box [(iv s.serial), (bv s.opn), .pv false (.sl (nums .u8 s.pend)), (iv s.act), .ref 1 0 s.ents.length]), (1, .row .io 162 9 (rws nP s.ents))] = some (.tu [], [(0, .box [(iv ((doS s e).serial)), (bv ((doS s e).opn)), .nl, (iv ((doS s e).act)), .ref 1 0 s.ents.length]), (1, .row .io 162 9 (rws nP s.ents))])) ∨ ((doS s e).pend = [] ∧ phi C0 (lim C0) 123 [.bp 0 0, .ag [(iv e.kind), .pv false (.sl (nums .u8 e.addr)), (iv e.act), (iv e.val.kind), (iv e.val.n), .pv false (.sl (nums .u8 e.val.s)), .pv false (.sl (rws byP e.val.k)), .pv false (.sl (rws vP e.val.l)), .pv false (.sl (rws byP e.deps))]] [(0, .box [(iv s.serial), (bv s.opn), .pv false (.sl (nums .u8 s.pend)), (iv s.act), .ref 1 0 s.ents.length]), (1, .row .io 162 9 (rws nP s.ents))] = some (.tu [], [(0, .box [(iv ((doS s e).serial)), (bv ((doS s e).opn)), .nl, (iv ((doS s e).act)), .ref 18 0 (doS s e).ents.length]), (1, .row .io 162 9 (rws nP s.ents)), (18, .row .own 162 9 (rws nP (doS s e).ents))])) := by
 have hser : 0 ≤ s.serial ∧ s.serial < 1000000 := ⟨hi.ser.1, by simp only [mayS, Bool.and_eq_true, decide_eq_true_eq] at hm; exact hm.1⟩
 obtain ⟨hk, ha, h1, h2⟩ := evB_kind hb
 rcases hk with k | k | k | k | k | k | k
 · refine .inl ⟨by simp [doS, k], ?_⟩
   rw [p123_0o s e hs he hser k]
   simp [doS, k]
 · refine .inl ⟨by simp [doS, k], ?_⟩
   rw [p123_1o s e hs he hser k]
   simp [doS, k]
 · refine .inr (.inr ⟨by simp [doS, k], ?_⟩)
   rw [p123_2o s e hs he hser k]
   simp [doS, k]
 · have hm3 := hm
   simp [mayS, k] at hm3
   obtain ⟨_, hp, hpe, hact⟩ := hm3
   have h0 := fndN_has s.pend s.ents 0
   rw [(hi.opn hp).2, hact] at h0
   have h0 : 0 ≤ fndN s.pend s.ents 0 := of_decide_eq_true (h0.trans rfl)
   obtain ⟨j, hj⟩ := Int.eq_ofNat_of_zero_le h0
   have hlt := fndN_lt s.pend s.ents 0
   have hjl : j < s.ents.length := by rw [hj] at hlt; omega
   refine .inr (.inr ⟨by simp [doS, k, hj], ?_⟩)
   rw [p123_3o s e hs he hser k j hj hjl]
   simp [doS, k, hj]
 · have hm3 := hm
   simp [mayS, k] at hm3
   obtain ⟨_, hp, hpe⟩ := hm3
   have ho := (hi.opn hp).1
   by_cases h0 : 0 ≤ fndN s.pend s.ents 0
   · obtain ⟨j, hj⟩ := Int.eq_ofNat_of_zero_le h0
     have hlt := fndN_lt s.pend s.ents 0
     have hjl : j < s.ents.length := by rw [hj] at hlt; omega
     have hx := List.getElem?_eq_getElem hjl
     refine .inr (.inr ⟨by simp [doS, k, tntS, hp, hj, hx, ho], ?_⟩)
     rw [p123_46ao s e hs he hser (.inl k) hp j hj _ hx]
     simp [doS, k, tntS, hp, hj, hx, ho]
   · refine .inr (.inl ⟨by simp [doS, k, tntS, hp, h0, ho], by simp [doS, k, tntS, hp, h0, ho], ?_⟩)
     rw [p123_4co s e hs he hser k hp h0]
     simp [doS, k, tntS, hp, h0, ho]
 · refine .inr (.inl ⟨by simp [doS, k], by simp [doS, k], ?_⟩)
   rw [p123_5o s e hs he hser k]
   simp [doS, k]
 · by_cases hp : s.pend = []
   · refine .inr (.inl ⟨by simp [doS, k, tntS, hp], by simp [doS, k, tntS, hp], ?_⟩)
     rw [p123_46no s e hs he hser (.inr k) hp]
     simp [doS, k, tntS, hp]
   by_cases h0 : 0 ≤ fndN s.pend s.ents 0
   · obtain ⟨j, hj⟩ := Int.eq_ofNat_of_zero_le h0
     have hlt := fndN_lt s.pend s.ents 0
     have hjl : j < s.ents.length := by rw [hj] at hlt; omega
     have hx := List.getElem?_eq_getElem hjl
     refine .inr (.inr ⟨by simp [doS, k, tntS, hp, hj, hx], ?_⟩)
     rw [p123_46ao s e hs he hser (.inr k) hp j hj _ hx]
     simp [doS, k, tntS, hp, hj, hx]
   · refine .inr (.inr ⟨by simp [doS, k, tntS, hp, h0], ?_⟩)
     rw [p123_6bo s e hs he hser k hp h0]
     simp [doS, k, tntS, hp, h0]
theorem pL4_oz (s : Sta) (e : Ev) (hs : SOk s) (he : EOk e) (hi : InvS s) (hb : evB e = true) (hm : mayS s e = true) (hz : s.pend = []) : ((doS s e).ents = s.ents ∧ phi C0 (lim C0) 123 [.bp 0 0, .ag [(iv e.kind), .pv false (.sl (nums .u8 e.addr)), (iv e.act), (iv e.val.kind), (iv e.val.n), .pv false (.sl (nums .u8 e.val.s)), .pv false (.sl (rws byP e.val.k)), .pv false (.sl (rws vP e.val.l)), .pv false (.sl (rws byP e.deps))]] [(0, .box [(iv s.serial), (bv s.opn), .nl, (iv s.act), .ref 1 0 s.ents.length]), (1, .row .io 162 9 (rws nP s.ents))] = some (.tu [], [(0, .box [(iv ((doS s e).serial)), (bv ((doS s e).opn)), .pv false (.sl (nums .u8 (doS s e).pend)), (iv ((doS s e).act)), .ref 1 0 s.ents.length]), (1, .row .io 162 9 (rws nP s.ents))])) ∨ ((doS s e).ents = s.ents ∧ (doS s e).pend = [] ∧ phi C0 (lim C0) 123 [.bp 0 0, .ag [(iv e.kind), .pv false (.sl (nums .u8 e.addr)), (iv e.act), (iv e.val.kind), (iv e.val.n), .pv false (.sl (nums .u8 e.val.s)), .pv false (.sl (rws byP e.val.k)), .pv false (.sl (rws vP e.val.l)), .pv false (.sl (rws byP e.deps))]] [(0, .box [(iv s.serial), (bv s.opn), .nl, (iv s.act), .ref 1 0 s.ents.length]), (1, .row .io 162 9 (rws nP s.ents))] = some (.tu [], [(0, .box [(iv ((doS s e).serial)), (bv ((doS s e).opn)), .nl, (iv ((doS s e).act)), .ref 1 0 s.ents.length]), (1, .row .io 162 9 (rws nP s.ents))])) ∨ ((doS s e).pend = [] ∧ phi C0 (lim C0) 123 [.bp 0 0, .ag [(iv e.kind), .pv false (.sl (nums .u8 e.addr)), (iv e.act), (iv e.val.kind), (iv e.val.n), .pv false (.sl (nums .u8 e.val.s)), .pv false (.sl (rws byP e.val.k)), .pv false (.sl (rws vP e.val.l)), .pv false (.sl (rws byP e.deps))]] [(0, .box [(iv s.serial), (bv s.opn), .nl, (iv s.act), .ref 1 0 s.ents.length]), (1, .row .io 162 9 (rws nP s.ents))] = some (.tu [], [(0, .box [(iv ((doS s e).serial)), (bv ((doS s e).opn)), .nl, (iv ((doS s e).act)), .ref 18 0 (doS s e).ents.length]), (1, .row .io 162 9 (rws nP s.ents)), (18, .row .own 162 9 (rws nP (doS s e).ents))])) := by
 have hser : 0 ≤ s.serial ∧ s.serial < 1000000 := ⟨hi.ser.1, by simp only [mayS, Bool.and_eq_true, decide_eq_true_eq] at hm; exact hm.1⟩
 obtain ⟨hk, ha, h1, h2⟩ := evB_kind hb
 rcases hk with k | k | k | k | k | k | k
 · refine .inr (.inl ⟨by simp [doS, k, hz], by simp [doS, k, hz], ?_⟩)
   rw [p123_0oz s e hs he hser hz k]
   simp [doS, k, hz]
 · refine .inl ⟨by simp [doS, k], ?_⟩
   rw [p123_1oz s e hs he hser hz k]
   simp [doS, k]
 · simp [mayS, k, hz] at hm
 · simp [mayS, k, hz] at hm
 · simp [mayS, k, hz] at hm
 · refine .inr (.inl ⟨by simp [doS, k], by simp [doS, k], ?_⟩)
   rw [p123_5oz s e hs he hser hz k]
   simp [doS, k]
 · refine .inr (.inl ⟨by simp [doS, k, tntS, hz], by simp [doS, k, tntS, hz], ?_⟩)
   rw [p123_6noz s e hs he hser hz k]
   simp [doS, k, tntS, hz]
def foldE : Sta → List Ev → Sta × Bool
 | s, [] => (s, true)
 | s, e :: l => bif mayS s e then foldE (doS s e) l else (s, false)
theorem foldE_ok : ∀ (l : List Ev) (s : Sta), (foldE s l).2 = okF s l
 | [], s => rfl
 | e :: l, s => by
  rw [foldE, okF]
  cases mayS s e
  · rfl
  · simp [foldE_ok l]
def pnC (z : Bool) (p : List Int) : TV := match z with
 | true => .nl
 | false => .pv false (.sl (nums .u8 p))
def enC (own : Bool) (l : List En) : TV := match own with
 | true => .ref 22 0 l.length
 | false => .pv false (.sl (rws nP l))
def enH (own : Bool) (l : List En) : Hp := match own with
 | true => [(22, .row .own 162 9 (rws nP l))]
 | false => []
@[simp] theorem pnC_t (p : List Int) : pnC true p = .nl := rfl
@[simp] theorem pnC_f (p : List Int) : pnC false p = .pv false (.sl (nums .u8 p)) := rfl
@[simp] theorem enC_t (l : List En) : enC true l = .ref 22 0 l.length := rfl
@[simp] theorem enC_f (l : List En) : enC false l = .pv false (.sl (rws nP l)) := rfl
@[simp] theorem enH_t (l : List En) : enH true l = [(22, .row .own 162 9 (rws nP l))] := rfl
@[simp] theorem enH_f (l : List En) : enH false l = [] := rfl
theorem p85 (h : His) (ho : HOk h) (hst : stB h.base = true) (hev : ∀ e ∈ h.evs, evB e = true) (hl3 : h.evs.length ≤ 300) : phi C0 (lim C0) 85 [.ag [(iv h.base.serial), (bv h.base.opn), .pv false (.sl (nums .u8 h.base.pend)), (iv h.base.act), .pv false (.sl (rws nP h.base.ents)), .pv false (.sl (rws eP h.evs)), (iv h.safe)], (iv h.evs.length)] [] = some (.tu [.ag [(iv ((foldE h.base h.evs).1.serial)), (bv ((foldE h.base h.evs).1.opn)), .pv false (.sl (nums .u8 (foldE h.base h.evs).1.pend)), (iv ((foldE h.base h.evs).1.act)), .pv false (.sl (rws nP (foldE h.base h.evs).1.ents))], (bv ((foldE h.base h.evs).2))], []) := call0 Tryz.func85 (by kernel_rfl) ((show ∀ fn : Func, fn.results = #[.cell 4 48, .tmp 5] → globs fn = [0, 2, 1, 7, 12, 6, 22, 4, 5] → lim C0 85 fn [.c (code Tryz.f85)] ⟨_, _⟩ = _ from fun fn hr hg => by
 have hp5 := plan85_5
 simp [opsOf, code, Tryz.f85] at hp5
 have hinv0 := stB_inv hst
 have hsok0 := ho.base
 have hlen0 : h.base.ents.length ≤ 16 := by simp only [stB, Bool.and_eq_true, decide_eq_true_eq] at hst; exact hst.1.1.2
 simp [code, Tryz.f85, hr, hg, hp5]
 refine (loop_go (s0 := ?s1) (fun x => h.evs.length - x.1) (fun x => [(7, (iv ((x.1 : Nat))))]) (fun x => [(16, .box [(iv h.base.serial), (bv h.base.opn), .pv false (.sl (nums .u8 h.base.pend)), (iv h.base.act), .pv false (.sl (rws nP h.base.ents)), .pv false (.sl (rws eP h.evs)), (iv h.safe)]), (18, .box [(iv 0), (bv false), .nl, (iv 0), .nl]), (20, .box [(iv x.2.1.serial), (bv x.2.1.opn), pnC x.2.2.2 x.2.1.pend, (iv x.2.1.act), enC x.2.2.1 x.2.1.ents])] ++ enH x.2.2.1 x.2.1.ents) (fun x => some (.tu [.ag [(iv ((foldE x.2.1 (h.evs.drop x.1)).1.serial)), (bv ((foldE x.2.1 (h.evs.drop x.1)).1.opn)), .pv false (.sl (nums .u8 (foldE x.2.1 (h.evs.drop x.1)).1.pend)), (iv ((foldE x.2.1 (h.evs.drop x.1)).1.act)), .pv false (.sl (rws nP (foldE x.2.1 (h.evs.drop x.1)).1.ents))], (bv ((foldE x.2.1 (h.evs.drop x.1)).2))], [])) (fun x => x.1 ≤ h.evs.length ∧ InvS x.2.1 ∧ SOk x.2.1 ∧ x.2.1.ents.length ≤ 16 + x.1 ∧ (x.2.2.2 = true → x.2.1.pend = [])) ((0 : Nat), h.base, false, false) ?hc1 ?h01 ?hs1 ?step1).trans ?r1
 case hc1 => simp; rfl
 case h01 => first | (simp; done) | (simp [*]; done) | exact ⟨by simp, ⟨rfl⟩⟩ | grind | (simp; omega)
 case hs1 => first | (simp; done) | (simp [*]; done)
 case r1 => simp [hg]
 rintro ⟨i, s, own, z⟩ ⟨hi, hinv, hsok, hlen, hz⟩ ih
 dsimp only at hi hinv hsok hlen hz
 by_cases hlt : i < h.evs.length
 · have he := ho.all _ (List.getElem_mem hlt)
   have hb := hev _ (List.getElem_mem hlt)
   have r1 := fun b0 => p122 s h.evs[i] hsok he hb hinv.ser b0
   have w3 : IntKind.i64.wrap ((i : Int) + 1) = i + 1 := wrap_id' (by omega)
   have eF : foldE s (h.evs.drop i) = bif mayS s h.evs[i] then foldE (doS s h.evs[i]) (h.evs.drop (i + 1)) else (s, false) := by rw [drop_at hlt]; rfl
   by_cases hm : mayS s h.evs[i] = true
   · rw [hm] at r1 eF
     simp only [cond_true] at eF
     have hn := doS_inv hinv hm
     have ho2 := doS_ok hsok he (by omega)
     have hl2 := doS_len s h.evs[i]
     have rd := fun _ : own = false => fun _ : z = false => pL4_d s h.evs[i] hsok he hinv hb hm
     have rdz := fun _ : own = false => fun hz' : z = true => pL4_dz s h.evs[i] hsok he hinv hb hm (hz hz')
     have ro := fun _ : own = true => fun _ : z = false => pL4_o s h.evs[i] hsok he hinv hb hm
     have roz := fun _ : own = true => fun hz' : z = true => pL4_oz s h.evs[i] hsok he hinv hb hm (hz hz')
     obtain ⟨nx, hnx⟩ : ∃ nx, doS s h.evs[i] = nx := ⟨_, rfl⟩
     rw [hnx] at hn ho2 hl2 eF rd rdz ro roz
     cases own <;> cases z
     · rcases rd rfl rfl with ⟨hen, r2⟩ | ⟨hen, hpn, r2⟩ | ⟨hpn, r2⟩
       · simp [hg, hlt, r1, r2, w3, hr, hg, hp5]
         refine (ih.out (i + 1, nx, false, false) _ ?_ ?_ ?_).trans ?_
         · simp [hg]; omega
         · exact ⟨by dsimp only; omega, hn, ho2, by dsimp only; omega, fun h => (by cases h)⟩
         · simp [hg, hen]
         · rw [eF]
       · simp [hg, hlt, r1, r2, w3, hr, hg, hp5]
         refine (ih.out (i + 1, nx, false, true) _ ?_ ?_ ?_).trans ?_
         · simp [hg]; omega
         · exact ⟨by dsimp only; omega, hn, ho2, by dsimp only; omega, fun _ => hpn⟩
         · simp [hg, hen]
         · rw [eF]
       · simp [hg, hlt, r1, r2, w3, hr, hg, hp5]
         refine (ih.out (i + 1, nx, true, true) _ ?_ ?_ ?_).trans ?_
         · simp [hg]; omega
         · exact ⟨by dsimp only; omega, hn, ho2, by dsimp only; omega, fun _ => hpn⟩
         · simp [hg]
         · rw [eF]
     · have hz0 := hz rfl
       simp only [hz0, rws_nil] at r1
       rcases rdz rfl rfl with ⟨hen, r2⟩ | ⟨hen, hpn, r2⟩ | ⟨hpn, r2⟩
       · simp [hg, hlt, r1, r2, w3, hr, hg, hp5]
         refine (ih.out (i + 1, nx, false, false) _ ?_ ?_ ?_).trans ?_
         · simp [hg]; omega
         · exact ⟨by dsimp only; omega, hn, ho2, by dsimp only; omega, fun h => (by cases h)⟩
         · simp [hg, hen]
         · rw [eF]
       · simp [hg, hlt, r1, r2, w3, hr, hg, hp5]
         refine (ih.out (i + 1, nx, false, true) _ ?_ ?_ ?_).trans ?_
         · simp [hg]; omega
         · exact ⟨by dsimp only; omega, hn, ho2, by dsimp only; omega, fun _ => hpn⟩
         · simp [hg, hen]
         · rw [eF]
       · simp [hg, hlt, r1, r2, w3, hr, hg, hp5]
         refine (ih.out (i + 1, nx, true, true) _ ?_ ?_ ?_).trans ?_
         · simp [hg]; omega
         · exact ⟨by dsimp only; omega, hn, ho2, by dsimp only; omega, fun _ => hpn⟩
         · simp [hg]
         · rw [eF]
     · rcases ro rfl rfl with ⟨hen, r2⟩ | ⟨hen, hpn, r2⟩ | ⟨hpn, r2⟩
       · simp [hg, hlt, r1, r2, w3, hr, hg, hp5]
         refine (ih.out (i + 1, nx, true, false) _ ?_ ?_ ?_).trans ?_
         · simp [hg]; omega
         · exact ⟨by dsimp only; omega, hn, ho2, by dsimp only; omega, fun h => (by cases h)⟩
         · simp [hg, hen]
         · rw [eF]
       · simp [hg, hlt, r1, r2, w3, hr, hg, hp5]
         refine (ih.out (i + 1, nx, true, true) _ ?_ ?_ ?_).trans ?_
         · simp [hg]; omega
         · exact ⟨by dsimp only; omega, hn, ho2, by dsimp only; omega, fun _ => hpn⟩
         · simp [hg, hen]
         · rw [eF]
       · simp [hg, hlt, r1, r2, w3, hr, hg, hp5]
         refine (ih.out (i + 1, nx, true, true) _ ?_ ?_ ?_).trans ?_
         · simp [hg]; omega
         · exact ⟨by dsimp only; omega, hn, ho2, by dsimp only; omega, fun _ => hpn⟩
         · simp [hg]
         · rw [eF]
     · have hz0 := hz rfl
       simp only [hz0, rws_nil] at r1
       rcases roz rfl rfl with ⟨hen, r2⟩ | ⟨hen, hpn, r2⟩ | ⟨hpn, r2⟩
       · simp [hg, hlt, r1, r2, w3, hr, hg, hp5]
         refine (ih.out (i + 1, nx, true, false) _ ?_ ?_ ?_).trans ?_
         · simp [hg]; omega
         · exact ⟨by dsimp only; omega, hn, ho2, by dsimp only; omega, fun h => (by cases h)⟩
         · simp [hg, hen]
         · rw [eF]
       · simp [hg, hlt, r1, r2, w3, hr, hg, hp5]
         refine (ih.out (i + 1, nx, true, true) _ ?_ ?_ ?_).trans ?_
         · simp [hg]; omega
         · exact ⟨by dsimp only; omega, hn, ho2, by dsimp only; omega, fun _ => hpn⟩
         · simp [hg, hen]
         · rw [eF]
       · simp [hg, hlt, r1, r2, w3, hr, hg, hp5]
         refine (ih.out (i + 1, nx, true, true) _ ?_ ?_ ?_).trans ?_
         · simp [hg]; omega
         · exact ⟨by dsimp only; omega, hn, ho2, by dsimp only; omega, fun _ => hpn⟩
         · simp [hg]
         · rw [eF]
   · have hm : mayS s h.evs[i] = false := by simpa using hm
     rw [hm] at r1 eF
     simp only [cond_false] at eF
     cases own <;> cases z
     · simp [hg, hlt, r1, eF, hr, hg, hp5]
     · simp only [hz rfl, rws_nil] at r1
       simp [hg, hlt, r1, eF, hz rfl, hr, hg, hp5]
     · simp [hg, hlt, r1, eF, hr, hg, hp5]
     · simp only [hz rfl, rws_nil] at r1
       simp [hg, hlt, r1, eF, hz rfl, hr, hg, hp5]
 · have e : i = h.evs.length := by omega
   subst e
   cases own <;> cases z
   · simp [hg, foldE, hr, hg, hp5]
   · simp [hg, foldE, hz rfl, hr, hg, hp5]
   · simp [hg, foldE, hr, hg, hp5]
   · simp [hg, foldE, hz rfl, hr, hg, hp5]
 ) Tryz.f85 Tryz.results85 gl85)
end Go.Proofs.YtgbfmdihmnpcdaaGreatDoor
