/- Texts of histories, by the program. -/
import Derived.Test.YtgkhojgmpojodaaGreatDoorW24
namespace Go.Proofs.YtgkhojgmpojodaaGreatDoor
open Go Go.Pm Go.Proofs
set_option linter.unusedVariables false
set_option linter.unusedSimpArgs false
set_option maxRecDepth 100000
set_option maxHeartbeats 4000000
def lnT (n : Int) (e : Ev) : List Int := digT n ++ 32 :: (evT e ++ [10])
def hisT : Int → List Ev → List Int
  | _, [] => []
  | n, e :: l => lnT (n + 1) e ++ hisT (n + 1) l
@[simp] theorem hisT_nil (n : Int) : hisT n [] = [] := rfl
theorem hisT_app : ∀ (l k : List Ev) (n : Int), hisT n (l ++ k) = hisT n l ++ hisT (n + l.length) k
  | [], k, n => by simp [hisT]
  | e :: l, k, n => by
    have ih := hisT_app l k (n + 1)
    simp only [List.cons_append, hisT, ih, List.append_assoc, List.length_cons]
    congr 3
    omega
theorem hisT_take {l : List Ev} {n : Int} {i : Nat} (h : i < l.length) : hisT n (l.take (i + 1)) = hisT n (l.take i) ++ lnT (n + i + 1) l[i] := by
  rw [take_at h, hisT_app, List.length_take, Nat.min_eq_left (by omega)]
  simp [hisT]
theorem evT_len1 {e : Ev} (h : evB e = true) (he : EOk e) : (evT e).length ≤ 1060000 := by
  obtain ⟨hk, ha, h1, h2⟩ := evB_kind h
  have hd := he.addr
  have a1 : (knT e.kind).length ≤ 6 := by
    unfold knT
    repeat' split
    all_goals decide
  have a2 := (actT_ok e.act).2.1
  unfold evT
  have a3 : (if e.addr = [] then [] else 32 :: e.addr).length ≤ 1048577 := by split <;> simp <;> omega
  have a4 : (if e.kind = 1 then 32 :: actT e.act else if e.kind = 2 then 32 :: sayV e.val else []).length ≤ 3000 := by
    split
    · simp; omega
    · split
      · rename_i k
        have hv5 : shV e.val 5 = true ∧ ptV e.val ≤ 40 := by simpa [valB] using h2 k
        have := say_len e.val 5 hv5.1
        simp; omega
      · simp
  simp only [List.length_append]
  omega
theorem okS_mem : ∀ {l : List Ev} {s : Sta}, okS s l = true → ∀ e ∈ l, evB e = true
  | [], _, _, e, h => by cases h
  | x :: l, s, h, e, he => by
    simp only [okS, Bool.and_eq_true] at h
    rcases List.mem_cons.1 he with rfl | he
    · exact h.1
    · exact okS_mem h.2.2 e he
theorem hisT_len : ∀ {l : List Ev} {n : Int}, 0 ≤ n → n + l.length ≤ 2000000 → (∀ e ∈ l, (evT e).length ≤ 1060000) → (hisT n l).length ≤ 1060100 * l.length
  | [], _, _, _, _ => by simp [hisT]
  | e :: l, n, h0, h1, h => by
    simp only [List.length_cons] at h1
    have ih := hisT_len (l := l) (n := n + 1) (by omega) (by omega) fun y hy => h y (List.mem_cons_of_mem _ hy)
    have hd := digT_len (n := n + 1) (by omega) (by omega)
    have he := h e (List.mem_cons_self ..)
    simp only [hisT, lnT, List.length_append, List.length_cons, List.length_nil]
    omega
theorem hisB_facts {h : His} (ho : HOk h) (hb : hisB h = true) : (0 ≤ h.base.serial ∧ h.base.serial ≤ 1000000) ∧ h.evs.length ≤ 300 ∧ (∀ e ∈ h.evs, evB e = true) ∧ (∀ e ∈ h.evs, (evT e).length ≤ 1060000) ∧ ∀ i, (hisT h.base.serial (h.evs.take i)).length ≤ 318030000 := by
  simp only [hisB, Bool.and_eq_true, decide_eq_true_eq] at hb
  obtain ⟨h1, h2, _, h4⟩ := hb
  have hs := (stB_inv h1).ser
  have hm := okS_mem h4
  have hl : ∀ e ∈ h.evs, (evT e).length ≤ 1060000 := fun e he => evT_len1 (hm e he) (ho.all e he)
  refine ⟨hs, h2, hm, hl, fun i => ?_⟩
  have ht : (h.evs.take i).length ≤ h.evs.length := by simp; omega
  have := hisT_len (l := h.evs.take i) (n := h.base.serial) (by omega) (by omega) fun e he => hl e (List.mem_of_mem_take he)
  omega
theorem p49 (h : His) (ho : HOk h) : phi C0 (lim C0) 49 [.ag [(.pv false (.sc (.int .i64 h.base.serial))), (.pv false (.sc (.bool h.base.opn))), .pv false (.sl (nums .u8 h.base.pend)), (.pv false (.sc (.int .i64 h.base.act))), .pv false (.sl (rws nP h.base.ents)), .pv false (.sl (rws eP h.evs)), (.pv false (.sc (.int .i64 h.safe)))]] [] = some (.ref 16 0 (if hisB h then hisT h.base.serial h.evs else []).length, [(16, .row .own 5 1 (nums .u8 (if hisB h then hisT h.base.serial h.evs else [])))]) := call0 Tryz.func49 (by kernel_rfl) ((show ∀ fn : Func, fn.results = #[.tmp 2] → globs fn = [0, 1, 8, 13, 12, 14, 11, 4, 3, 5, 2] → lim C0 49 fn [.c (code Tryz.f49)] ⟨_, _⟩ = _ from fun fn hr hg => by
  have q0 := p114 h ho
  have hbf := @hisB_facts h ho
  cases hb : hisB h
  · rw [hb] at q0
    simp [code, Tryz.f49, hr, hg, q0]
  rw [hb] at q0 hbf
  obtain ⟨b1, b2, b3, b4, b5⟩ := hbf rfl
  simp only [if_true]
  simp [code, Tryz.f49, hr, hg, q0]
  refine (loop_to (s0 := ?s1) (fun i => h.evs.length - i) (fun i => [(3, .ref 18 0 (hisT h.base.serial (h.evs.take i)).length), (13, (.pv false (.sc (.int .i64 ((i : Nat))))))]) (fun i => [(16, .box [(.pv false (.sc (.int .i64 h.base.serial))), (.pv false (.sc (.bool h.base.opn))), .pv false (.sl (nums .u8 h.base.pend)), (.pv false (.sc (.int .i64 h.base.act))), .pv false (.sl (rws nP h.base.ents)), .pv false (.sl (rws eP h.evs)), (.pv false (.sc (.int .i64 h.safe)))]), (18, .row .own 5 1 (nums .u8 (hisT h.base.serial (h.evs.take i))))]) (fun i K => K [(3, .ref 18 0 (hisT h.base.serial h.evs).length), (13, (.pv false (.sc (.int .i64 h.evs.length))))] [(16, .box [(.pv false (.sc (.int .i64 h.base.serial))), (.pv false (.sc (.bool h.base.opn))), .pv false (.sl (nums .u8 h.base.pend)), (.pv false (.sc (.int .i64 h.base.act))), .pv false (.sl (rws nP h.base.ents)), .pv false (.sl (rws eP h.evs)), (.pv false (.sc (.int .i64 h.safe)))]), (18, .row .own 5 1 (nums .u8 (hisT h.base.serial h.evs)))]) (fun i => i ≤ h.evs.length) 0 ?hc1 ?h01 ?hs1 ?step1).trans ?r1
  case hc1 => simp; rfl
  case h01 => first | (simp; done) | (simp [*]; done) | exact ⟨by simp, ⟨rfl⟩⟩ | grind | (simp; omega)
  case hs1 => first | (simp; done) | (simp [*]; done)
  case r1 => simp [hr, hg]
  intro k i hi ih
  simp [hg]
  by_cases hlt : i < h.evs.length
  · have he := ho.all _ (List.getElem_mem hlt)
    have hbe := b3 _ (List.getElem_mem hlt)
    have hbl := b4 _ (List.getElem_mem hlt)
    have hE := b5 i
    have e1 := hisT_take (n := h.base.serial) hlt
    have w1 : IntKind.i64.wrap (h.base.serial + (i : Int)) = h.base.serial + i := wrap_id' (by omega)
    have w2 : IntKind.i64.wrap (h.base.serial + (i : Int) + 1) = h.base.serial + i + 1 := wrap_id' (by omega)
    have w3 : IntKind.i64.wrap ((i : Int) + 1) = i + 1 := wrap_id' (by omega)
    have q1 := p65 (h.base.serial + i + 1) (hisT h.base.serial (h.evs.take i)) (by omega) (by omega) (by omega)
    have q7 := p74 h.evs[i] he hbe
    have hgl := digT_len (n := h.base.serial + i + 1) (by omega) (by omega)
    unfold lnT at e1
    generalize hisT h.base.serial (h.evs.take i) = E at *
    generalize digT (h.base.serial + i + 1) = z at *
    generalize evT h.evs[i] = t at *
    obtain ⟨nn, hnn⟩ : ∃ nn, E.length = nn := ⟨_, rfl⟩
    rw [hnn] at q1 hE
    have g0 := room_ok (n := nn + z.length + 1) (by omega)
    have m0 := max_ok' (n := nn + z.length + 1) (by omega)
    have g1 := room_ok (n := nn + z.length + 1 + t.length) (by omega)
    have m1 := max_ok' (n := nn + z.length + 1 + t.length) (by omega)
    have g2 := room_ok (n := nn + z.length + 1 + t.length + 1) (by omega)
    have m2 := max_ok' (n := nn + z.length + 1 + t.length + 1) (by omega)
    have s0 := spare_no (a := nn + z.length) (b := nn + z.length) (by omega)
    have s1 := spare_no (a := nn + z.length + 1) (b := nn + (z.length + 1)) (by omega)
    have l1 := le_ok' (a := nn + z.length + 1) (b := nn + (z.length + 1)) (by omega)
    have s2 := spare_no (a := nn + z.length + 1 + t.length) (b := nn + (z.length + (t.length + 1))) (by omega)
    have l2 := le_ok' (a := nn + z.length + 1 + t.length) (b := nn + (z.length + (t.length + 1))) (by omega)
    have k0 : List.take (nn + z.length) (E ++ z) = E ++ z := List.take_of_length_le (by simp [hg]; omega)
    have k1 : List.take (nn + z.length + 1) (E ++ (z ++ [32])) = E ++ (z ++ [32]) := List.take_of_length_le (by simp [hg]; omega)
    have k2 : List.take (nn + z.length + 1 + t.length) (E ++ (z ++ 32 :: t)) = E ++ (z ++ 32 :: t) := List.take_of_length_le (by simp [hg]; omega)
    simp [hg, hlt, hnn, q1, q7, w1, w2, w3, g0, m0, g1, m1, g2, m2, s0, s1, l1, s2, l2, k0, k1, k2, hr, hg]
    refine (ih.out (i + 1) _ ?_ ?_ ?_).trans ?_
    · omega
    · omega
    · rw [e1]; simp [hg, hnn]; try omega
    · rfl
  · have e : i = h.evs.length := by omega
    subst e
    simp [hg]
  ) Tryz.f49 Tryz.results49 gl49)
end Go.Proofs.YtgkhojgmpojodaaGreatDoor
