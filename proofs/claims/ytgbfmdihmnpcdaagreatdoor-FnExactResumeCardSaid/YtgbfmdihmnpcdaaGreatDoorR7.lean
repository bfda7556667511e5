/- A run that was broken off is ended, by the program: the walker. -/
import Derived.Test.YtgbfmdihmnpcdaaGreatDoorR2
import Derived.Test.YtgbfmdihmnpcdaaGreatDoorR6
namespace Go.Proofs.YtgbfmdihmnpcdaaGreatDoor
open Go Go.Pm Go.Proofs
set_option linter.unusedVariables false
set_option linter.unusedSimpArgs false
set_option maxRecDepth 100000
set_option maxHeartbeats 4000000
theorem tlS_last : ∀ (l : List Ev) (s : Sta), okF s l = true → (s :: tlS s l)[l.length]? = some (foldE s l).1
 | [], s, _ => rfl
 | e :: l, s, h => by
  rw [okF] at h
  rw [foldE, tlS]
  cases hm : mayS s e with
  | false => rw [hm] at h; cases h
  | true =>
   rw [hm] at h
   have := tlS_last l (doS s e) (by simpa using h)
   simpa using this
theorem t49 (h : His) (ho : HOk h) (hb : hisB h = true) (s : Sta) (hs : lastS h = s) : phi C3 (lim C3) 49 [.ag [(iv h.base.serial), (bv h.base.opn), .pv false (.sl (nums .u8 h.base.pend)), (iv h.base.act), .pv false (.sl (rws nP h.base.ents)), .pv false (.sl (rws eP h.evs)), (iv h.safe)], .pv false (.sl [])] [] = some (.bp 16 0, [(16, .box [(iv h.base.serial), (bv h.base.opn), .nr 18 [] 0 h.base.pend.length, (iv h.base.act), .nr 20 [] 0 h.base.ents.length, tnT 22 h.evs, (iv h.safe), (iv s.serial), (bv s.opn), .pv false (.sl (nums .u8 s.pend)), (iv s.act), .pv false (.sl (rws nP s.ents)), .pv false (.sl []), .pv false (.sc .nilFunc), .nl, .nl]), (18, .tree .own (nums .u8 h.base.pend)), (20, .tree .own (rws nP h.base.ents))] ++ tnH 22 eP h.evs) := call3 Tryz.func49 (by kernel_rfl) ((show ∀ fn : Func, fn.results = #[.tmp 4] → lim C3 49 fn [.c (code Tryz.f49)] ⟨_, _⟩ = _ from fun fn hr => by
 have hp1 := plan49_1
 simp [opsOf, code, Tryz.f49] at hp1
 have hp2 := plan49_2
 simp [opsOf, code, Tryz.f49] at hp2
 obtain ⟨h1, h2, h3, h4⟩ := hisB_parts hb
 have q1 := lo3 (p91 h ho)
 rw [hb] at q1
 simp only [if_true] at q1
 have q2 := t92 h ho false false false
 have hL := tlS_last h.evs h.base h4
 rw [show (foldE h.base h.evs).1 = s from hs] at hL
 have hlen : (h.base :: tlS h.base h.evs).length = h.evs.length + 1 := by simp [tlS_len]
 generalize h.base :: tlS h.base h.evs = L at *
 have hlt : h.evs.length < L.length := by omega
 have hg : L[h.evs.length] = s := by rw [List.getElem?_eq_getElem hlt] at hL; exact Option.some.inj hL
 have e0 : ((h.evs.length + 1 : Nat) : Int) - 1 = (h.evs.length : Int) := by omega
 have hev := ho.evs
 cases hq : h.evs with
 | nil =>
  simp only [hq, rws_nil, List.length_nil] at q1 q2 hlt hg hlen
  simp at hg hlt hlen
  simp [code, Tryz.f49, hr, hp1, hp2, q1, q2, hlen, hlt, hg]
 | cons ev evs =>
  have w1 : IntKind.i64.wrap ((evs.length : Int) + 1) = evs.length + 1 := wrap_id' (by rw [hq] at hev; simp at hev; omega)
  have w2 : (0 : Int) ≤ evs.length + 1 := by omega
  have w3 : ((evs.length : Int) + 1).toNat = evs.length + 1 := by omega
  simp only [hq, List.length_cons] at q1 q2 hlt hg hlen
  simp [code, Tryz.f49, hr, hp1, hp2, q1, q2, hlen, hlt, hg, w1, w2, w3]
 ) Tryz.f49 Tryz.results49)
def tnI {α : Type} (o : Nat) (enc : α → List PV) : List α → Hp
 | [] => []
 | a :: l => [(o, .tree .io (enc a :: rws enc l))]
@[simp] theorem tnI_nil {α : Type} (o : Nat) (enc : α → List PV) : tnI o enc ([] : List α) = [] := rfl
@[simp] theorem tnI_cons {α : Type} (o : Nat) (enc : α → List PV) (a : α) (l : List α) : tnI o enc (a :: l) = [(o, .tree .io (enc a :: rws enc l))] := rfl
def stE : List Ev → RS
 | [] => .own
 | _ :: _ => .io
@[simp] theorem stE_nil : stE [] = .own := rfl
@[simp] theorem stE_cons (a : Ev) (l : List Ev) : stE (a :: l) = .io := rfl
theorem t94 (h : His) (hl : h.evs.length ≤ 1048576) (s : Sta) : phi C3 (lim C3) 94 [.bp 0 0] [(0, .box [(iv h.base.serial), (bv h.base.opn), .nr 1 [] 0 h.base.pend.length, (iv h.base.act), .nr 2 [] 0 h.base.ents.length, .nr 3 [] 0 (h.evs.length + 1), (iv h.safe), (iv s.serial), (bv s.opn), .pv false (.sl (nums .u8 s.pend)), (iv s.act), .pv false (.sl (rws nP s.ents)), .pv false (.sl []), .pv false (.sc .nilFunc), .nl, .nl]), (1, .tree .io (nums .u8 h.base.pend)), (2, .tree .io (rws nP h.base.ents)), (3, .tree .io (rws eP (h.evs ++ [rst])))] = some (.tu [], [(0, .box [(iv h.base.serial), (bv h.base.opn), .nr 1 [] 0 h.base.pend.length, (iv h.base.act), .nr 2 [] 0 h.base.ents.length, .nr 3 [] 0 (h.evs.length + 1), (iv ((h.evs.length : Int) + 1)), (iv s.serial), (bv s.opn), .pv false (.sl (nums .u8 s.pend)), (iv s.act), .pv false (.sl (rws nP s.ents)), .pv false (.sl []), .pv false (.sc .nilFunc), .nl, .nl]), (1, .tree .io (nums .u8 h.base.pend)), (2, .tree .io (rws nP h.base.ents)), (3, .tree .io (rws eP (h.evs ++ [rst])))]) := call3 Tryz.func94 (by kernel_rfl) ((show ∀ fn : Func, fn.results = #[] → lim C3 94 fn [.c (code Tryz.f94)] ⟨_, _⟩ = _ from fun fn hr => by
 simp [code, Tryz.f94, hr]
 ) Tryz.f94 Tryz.results94)
theorem t93_f (h : His) (ho : HOk h) (s : Sta) (hs : SOk s) (hi : InvS s) (hl : h.evs.length = 300) : phi C3 (lim C3) 93 [.bp 0 0, .ag [(iv rst.kind), .pv false (.sl (nums .u8 rst.addr)), (iv rst.act), (iv rst.val.kind), (iv rst.val.n), .pv false (.sl (nums .u8 rst.val.s)), .pv false (.sl (rws byP rst.val.k)), .pv false (.sl (rws vP rst.val.l)), .pv false (.sl (rws byP rst.deps))]] ([(0, .box [(iv h.base.serial), (bv h.base.opn), .nr 1 [] 0 h.base.pend.length, (iv h.base.act), .nr 2 [] 0 h.base.ents.length, tnT 3 h.evs, (iv h.safe), (iv s.serial), (bv s.opn), .pv false (.sl (nums .u8 s.pend)), (iv s.act), .pv false (.sl (rws nP s.ents)), .pv false (.sl []), .pv false (.sc .nilFunc), .nl, .nl]), (1, .tree .io (nums .u8 h.base.pend)), (2, .tree .io (rws nP h.base.ents))] ++ tnI 3 eP h.evs) = some ((bv false), ([(0, .box [(iv h.base.serial), (bv h.base.opn), .nr 1 [] 0 h.base.pend.length, (iv h.base.act), .nr 2 [] 0 h.base.ents.length, tnT 3 h.evs, (iv h.safe), (iv s.serial), (bv s.opn), .pv false (.sl (nums .u8 s.pend)), (iv s.act), .pv false (.sl (rws nP s.ents)), .pv false (.sl []), .pv false (.sc .nilFunc), .nl, .nl]), (1, .tree .io (nums .u8 h.base.pend)), (2, .tree .io (rws nP h.base.ents))] ++ tnI 3 eP h.evs)) := call3 Tryz.func93 (by kernel_rfl) ((show ∀ fn : Func, fn.results = #[.tmp 4] → lim C3 93 fn [.c (code Tryz.f93)] ⟨_, _⟩ = _ from fun fn hr => by
 have hp1 := plan93_1
 simp [opsOf, code, Tryz.f93] at hp1
 have hp3 := plan93_3
 simp [opsOf, code, Tryz.f93] at hp3
 have hp4 := plan93_4
 simp [opsOf, code, Tryz.f93] at hp4
 cases hq : h.evs with
 | nil => rw [hq] at hl; cases hl
 | cons ev evs =>
  rw [hq] at hl
  have c1 : ((evs.length : Int) + 1 = 300) := by simp at hl; omega
  simp [code, Tryz.f93, hr, hp1, hp3, hp4, c1, hl]
 ) Tryz.f93 Tryz.results93)
theorem t93_m (h : His) (ho : HOk h) (s : Sta) (hs : SOk s) (hi : InvS s) (hl : h.evs.length < 300) (hm : mayS s rst = false) : phi C3 (lim C3) 93 [.bp 0 0, .ag [(iv rst.kind), .pv false (.sl (nums .u8 rst.addr)), (iv rst.act), (iv rst.val.kind), (iv rst.val.n), .pv false (.sl (nums .u8 rst.val.s)), .pv false (.sl (rws byP rst.val.k)), .pv false (.sl (rws vP rst.val.l)), .pv false (.sl (rws byP rst.deps))]] ([(0, .box [(iv h.base.serial), (bv h.base.opn), .nr 1 [] 0 h.base.pend.length, (iv h.base.act), .nr 2 [] 0 h.base.ents.length, tnT 3 h.evs, (iv h.safe), (iv s.serial), (bv s.opn), .pv false (.sl (nums .u8 s.pend)), (iv s.act), .pv false (.sl (rws nP s.ents)), .pv false (.sl []), .pv false (.sc .nilFunc), .nl, .nl]), (1, .tree .io (nums .u8 h.base.pend)), (2, .tree .io (rws nP h.base.ents))] ++ tnI 3 eP h.evs) = some ((bv false), ([(0, .box [(iv h.base.serial), (bv h.base.opn), .nr 1 [] 0 h.base.pend.length, (iv h.base.act), .nr 2 [] 0 h.base.ents.length, tnT 3 h.evs, (iv h.safe), (iv s.serial), (bv s.opn), .pv false (.sl (nums .u8 s.pend)), (iv s.act), .pv false (.sl (rws nP s.ents)), .pv false (.sl []), .pv false (.sc .nilFunc), .nl, .nl]), (1, .tree .io (nums .u8 h.base.pend)), (2, .tree .io (rws nP h.base.ents))] ++ tnI 3 eP h.evs)) := call3 Tryz.func93 (by kernel_rfl) ((show ∀ fn : Func, fn.results = #[.tmp 4] → lim C3 93 fn [.c (code Tryz.f93)] ⟨_, _⟩ = _ from fun fn hr => by
 have hp1 := plan93_1
 simp [opsOf, code, Tryz.f93] at hp1
 have hp3 := plan93_3
 simp [opsOf, code, Tryz.f93] at hp3
 have hp4 := plan93_4
 simp [opsOf, code, Tryz.f93] at hp4
 have q1 := fun b0 => lo3 (p131 s rst hs rst_ok hi rst_ev b0)
 rw [hm] at q1
 simp at q1
 cases hq : h.evs with
 | nil => simp [code, Tryz.f93, hr, hp1, hp3, hp4, q1]
 | cons ev evs =>
  rw [hq] at hl
  have c1 : ¬ ((evs.length : Int) + 1 = 300) := by simp at hl; omega
  simp [code, Tryz.f93, hr, hp1, hp3, hp4, c1, q1]
 ) Tryz.f93 Tryz.results93)
theorem t93_t (h : His) (ho : HOk h) (s : Sta) (hs : SOk s) (hi : InvS s) (hl : h.evs.length < 300) (hm : mayS s rst = true) : phi C3 (lim C3) 93 [.bp 0 0, .ag [(iv rst.kind), .pv false (.sl (nums .u8 rst.addr)), (iv rst.act), (iv rst.val.kind), (iv rst.val.n), .pv false (.sl (nums .u8 rst.val.s)), .pv false (.sl (rws byP rst.val.k)), .pv false (.sl (rws vP rst.val.l)), .pv false (.sl (rws byP rst.deps))]] ([(0, .box [(iv h.base.serial), (bv h.base.opn), .nr 1 [] 0 h.base.pend.length, (iv h.base.act), .nr 2 [] 0 h.base.ents.length, tnT 3 h.evs, (iv h.safe), (iv s.serial), (bv s.opn), .pv false (.sl (nums .u8 s.pend)), (iv s.act), .pv false (.sl (rws nP s.ents)), .pv false (.sl []), .pv false (.sc .nilFunc), .nl, .nl]), (1, .tree .io (nums .u8 h.base.pend)), (2, .tree .io (rws nP h.base.ents))] ++ tnI 3 eP h.evs) = some ((bv true), [(0, .box [(iv h.base.serial), (bv h.base.opn), .nr 1 [] 0 h.base.pend.length, (iv h.base.act), .nr 2 [] 0 h.base.ents.length, .nr 22 [] 0 (h.evs.length + 1), (iv h.safe), (iv ((doS s rst).serial)), (bv ((doS s rst).opn)), .pv false (.sl (nums .u8 (doS s rst).pend)), (iv ((doS s rst).act)), .pv false (.sl (rws nP (doS s rst).ents)), .pv false (.sl []), .pv false (.sc .nilFunc), .nl, .nl]), (1, .tree .io (nums .u8 h.base.pend)), (2, .tree .io (rws nP h.base.ents)), (22, .tree (stE h.evs) (rws eP (h.evs ++ [rst])))]) := call3 Tryz.func93 (by kernel_rfl) ((show ∀ fn : Func, fn.results = #[.tmp 4] → lim C3 93 fn [.c (code Tryz.f93)] ⟨_, _⟩ = _ from fun fn hr => by
 have hp1 := plan93_1
 simp [opsOf, code, Tryz.f93] at hp1
 have hp3 := plan93_3
 simp [opsOf, code, Tryz.f93] at hp3
 have hp4 := plan93_4
 simp [opsOf, code, Tryz.f93] at hp4
 have q1 := fun b0 => lo3 (p131 s rst hs rst_ok hi rst_ev b0)
 have q2 := lo3 (pDo s rst hs rst_ok hi rst_ev hm)
 have q3 := t130 rst rst_ok
 rw [hm] at q1
 generalize doS s rst = s2 at *
 have g5 : ∀ acc : List Ev, (∀ (r : List PV), r ∈ rws eP acc → r.length = 9) = True := fun acc => eq_true (rws_all _ _ fun _ => by simp)
 simp at q1 q2 q3
 cases hq : h.evs with
 | nil =>
  have m3 : 152 ≤ Pm.roomBytes := by unfold Pm.roomBytes; omega
  have m4 : 1 ≤ Pm.maxL := by unfold Pm.maxL; omega
  simp [code, Tryz.f93, hr, hp1, hp3, hp4, q1, q2, q3, m3, m4]
 | cons ev evs =>
  rw [hq] at hl
  simp only [List.length_cons] at hl
  have c1 : ¬ ((evs.length : Int) + 1 = 300) := by omega
  have m3 : (evs.length + 1 + 1) * 152 ≤ Pm.roomBytes := by unfold Pm.roomBytes; omega
  have m4 : evs.length + 1 + 1 ≤ Pm.maxL := by unfold Pm.maxL; omega
  simp [code, Tryz.f93, hr, hp1, hp3, hp4, c1, q1, q2, q3, m3, m4, g5]
  first | done | exact rws_app eP (ev :: evs) [rst]
 ) Tryz.f93 Tryz.results93)
theorem t50_c (h : His) (s : Sta) (hop : s.opn = false) : phi C3 (lim C3) 50 [.bp 0 0] ([(0, .box [(iv h.base.serial), (bv h.base.opn), .nr 1 [] 0 h.base.pend.length, (iv h.base.act), .nr 2 [] 0 h.base.ents.length, tnT 3 h.evs, (iv h.safe), (iv s.serial), (bv s.opn), .pv false (.sl (nums .u8 s.pend)), (iv s.act), .pv false (.sl (rws nP s.ents)), .pv false (.sl []), .pv false (.sc .nilFunc), .nl, .nl]), (1, .tree .io (nums .u8 h.base.pend)), (2, .tree .io (rws nP h.base.ents))] ++ tnI 3 eP h.evs) = some (.tu [], ([(0, .box [(iv h.base.serial), (bv h.base.opn), .nr 1 [] 0 h.base.pend.length, (iv h.base.act), .nr 2 [] 0 h.base.ents.length, tnT 3 h.evs, (iv h.safe), (iv s.serial), (bv s.opn), .pv false (.sl (nums .u8 s.pend)), (iv s.act), .pv false (.sl (rws nP s.ents)), .pv false (.sl []), .pv false (.sc .nilFunc), .nl, .nl]), (1, .tree .io (nums .u8 h.base.pend)), (2, .tree .io (rws nP h.base.ents))] ++ tnI 3 eP h.evs)) := call3 Tryz.func50 (by kernel_rfl) ((show ∀ fn : Func, fn.results = #[] → lim C3 50 fn [.c (code Tryz.f50)] ⟨_, _⟩ = _ from fun fn hr => by
 cases hq : h.evs <;> simp [code, Tryz.f50, hr, hop]
 ) Tryz.f50 Tryz.results50)
theorem t50_f (h : His) (ho : HOk h) (s : Sta) (hs : SOk s) (hi : InvS s) (hop : s.opn = true) (hl : h.evs.length = 300) : phi C3 (lim C3) 50 [.bp 0 0] ([(0, .box [(iv h.base.serial), (bv h.base.opn), .nr 1 [] 0 h.base.pend.length, (iv h.base.act), .nr 2 [] 0 h.base.ents.length, tnT 3 h.evs, (iv h.safe), (iv s.serial), (bv s.opn), .pv false (.sl (nums .u8 s.pend)), (iv s.act), .pv false (.sl (rws nP s.ents)), .pv false (.sl []), .pv false (.sc .nilFunc), .nl, .nl]), (1, .tree .io (nums .u8 h.base.pend)), (2, .tree .io (rws nP h.base.ents))] ++ tnI 3 eP h.evs) = some (.tu [], ([(0, .box [(iv h.base.serial), (bv h.base.opn), .nr 1 [] 0 h.base.pend.length, (iv h.base.act), .nr 2 [] 0 h.base.ents.length, tnT 3 h.evs, (iv h.safe), (iv s.serial), (bv s.opn), .pv false (.sl (nums .u8 s.pend)), (iv s.act), .pv false (.sl (rws nP s.ents)), .pv false (.sl []), .pv false (.sc .nilFunc), .nl, .nl]), (1, .tree .io (nums .u8 h.base.pend)), (2, .tree .io (rws nP h.base.ents))] ++ tnI 3 eP h.evs)) := call3 Tryz.func50 (by kernel_rfl) ((show ∀ fn : Func, fn.results = #[] → lim C3 50 fn [.c (code Tryz.f50)] ⟨_, _⟩ = _ from fun fn hr => by
 have q := t93_f h ho s hs hi hl
 simp [hop] at q
 cases hq : h.evs <;> simp only [hq, tnT_nil, tnT_cons, tnI_nil, tnI_cons, List.length_nil, List.length_cons, rws_nil] at q <;> (try simp at q) <;> simp [code, Tryz.f50, hr, hop, q]
 ) Tryz.f50 Tryz.results50)
theorem t50_m (h : His) (ho : HOk h) (s : Sta) (hs : SOk s) (hi : InvS s) (hop : s.opn = true) (hl : h.evs.length < 300) (hm : mayS s rst = false) : phi C3 (lim C3) 50 [.bp 0 0] ([(0, .box [(iv h.base.serial), (bv h.base.opn), .nr 1 [] 0 h.base.pend.length, (iv h.base.act), .nr 2 [] 0 h.base.ents.length, tnT 3 h.evs, (iv h.safe), (iv s.serial), (bv s.opn), .pv false (.sl (nums .u8 s.pend)), (iv s.act), .pv false (.sl (rws nP s.ents)), .pv false (.sl []), .pv false (.sc .nilFunc), .nl, .nl]), (1, .tree .io (nums .u8 h.base.pend)), (2, .tree .io (rws nP h.base.ents))] ++ tnI 3 eP h.evs) = some (.tu [], ([(0, .box [(iv h.base.serial), (bv h.base.opn), .nr 1 [] 0 h.base.pend.length, (iv h.base.act), .nr 2 [] 0 h.base.ents.length, tnT 3 h.evs, (iv h.safe), (iv s.serial), (bv s.opn), .pv false (.sl (nums .u8 s.pend)), (iv s.act), .pv false (.sl (rws nP s.ents)), .pv false (.sl []), .pv false (.sc .nilFunc), .nl, .nl]), (1, .tree .io (nums .u8 h.base.pend)), (2, .tree .io (rws nP h.base.ents))] ++ tnI 3 eP h.evs)) := call3 Tryz.func50 (by kernel_rfl) ((show ∀ fn : Func, fn.results = #[] → lim C3 50 fn [.c (code Tryz.f50)] ⟨_, _⟩ = _ from fun fn hr => by
 have q := t93_m h ho s hs hi hl hm
 simp [hop] at q
 cases hq : h.evs <;> simp only [hq, tnT_nil, tnT_cons, tnI_nil, tnI_cons, List.length_nil, List.length_cons, rws_nil] at q <;> (try simp at q) <;> simp [code, Tryz.f50, hr, hop, q]
 ) Tryz.f50 Tryz.results50)
theorem t50_t (h : His) (ho : HOk h) (s : Sta) (hs : SOk s) (hi : InvS s) (hop : s.opn = true) (hl : h.evs.length < 300) (hm : mayS s rst = true) : phi C3 (lim C3) 50 [.bp 0 0] ([(0, .box [(iv h.base.serial), (bv h.base.opn), .nr 1 [] 0 h.base.pend.length, (iv h.base.act), .nr 2 [] 0 h.base.ents.length, tnT 3 h.evs, (iv h.safe), (iv s.serial), (bv s.opn), .pv false (.sl (nums .u8 s.pend)), (iv s.act), .pv false (.sl (rws nP s.ents)), .pv false (.sl []), .pv false (.sc .nilFunc), .nl, .nl]), (1, .tree .io (nums .u8 h.base.pend)), (2, .tree .io (rws nP h.base.ents))] ++ tnI 3 eP h.evs) = some (.tu [], [(0, .box [(iv h.base.serial), (bv h.base.opn), .nr 1 [] 0 h.base.pend.length, (iv h.base.act), .nr 2 [] 0 h.base.ents.length, .nr 22 [] 0 (h.evs.length + 1), (iv ((h.evs.length : Int) + 1)), (iv ((doS s rst).serial)), (bv ((doS s rst).opn)), .pv false (.sl (nums .u8 (doS s rst).pend)), (iv ((doS s rst).act)), .pv false (.sl (rws nP (doS s rst).ents)), .pv false (.sl []), .pv false (.sc .nilFunc), .nl, .nl]), (1, .tree .io (nums .u8 h.base.pend)), (2, .tree .io (rws nP h.base.ents)), (22, .tree (stE h.evs) (rws eP (h.evs ++ [rst])))]) := call3 Tryz.func50 (by kernel_rfl) ((show ∀ fn : Func, fn.results = #[] → lim C3 50 fn [.c (code Tryz.f50)] ⟨_, _⟩ = _ from fun fn hr => by
 have q := t93_t h ho s hs hi hl hm
 have q2 := t94 h (by omega) (doS s rst)
 generalize doS s rst = s2 at *
 simp [hop] at q q2
 cases hq : h.evs <;> simp only [hq, tnT_nil, tnT_cons, tnI_nil, tnI_cons, List.length_nil, List.length_cons, rws_nil, List.nil_append, List.cons_append] at q q2 <;> (try simp at q q2) <;> simp [code, Tryz.f50, hr, hop, q, q2]
 ) Tryz.f50 Tryz.results50)
end Go.Proofs.YtgbfmdihmnpcdaaGreatDoor
