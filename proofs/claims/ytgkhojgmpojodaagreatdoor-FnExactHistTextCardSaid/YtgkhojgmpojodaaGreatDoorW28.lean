/- Histories, by the reference: which are ok; their texts. -/
import Derived.Test.YtgkhojgmpojodaaGreatDoorW13
import Derived.Test.YtgkhojgmpojodaaGreatDoorW27
namespace Go.Proofs.YtgkhojgmpojodaaGreatDoor
open Go Go.Pm Go.Proofs
set_option linter.unusedVariables false
set_option linter.unusedSimpArgs false
set_option maxRecDepth 100000
set_option maxHeartbeats 4000000
def allE : List Ev → Bool
  | [] => true
  | e :: l => evB e && allE l
theorem allE_is : ∀ l : List Ev, l.all evB = allE l
  | [] => rfl
  | e :: l => by rw [List.all_cons, allE_is l]; rfl
theorem allE_mem {l : List Ev} (h : allE l = true) : ∀ e ∈ l, evB e = true := by
  rw [← allE_is] at h
  exact List.all_eq_true.1 h
theorem p112 (h : His) (ho : HOk h) : phi C0 (lim C0) 112 [.ag [(.pv false (.sc (.int .i64 h.base.serial))), (.pv false (.sc (.bool h.base.opn))), .pv false (.sl (nums .u8 h.base.pend)), (.pv false (.sc (.int .i64 h.base.act))), .pv false (.sl (rws nP h.base.ents)), .pv false (.sl (rws eP h.evs)), (.pv false (.sc (.int .i64 h.safe)))]] [] = some ((.pv false (.sc (.bool (hisB h)))), []) := call0 Tryz.func112 (by kernel_rfl) ((show ∀ fn : Func, fn.results = #[.tmp 2] → globs fn = [0, 1, 28, 3, 33, 42, 5, 2] → lim C0 112 fn [.c (code Tryz.f112)] ⟨_, _⟩ = _ from fun fn hr hg => by
  have hp8 := plan112_8
  simp [opsOf, code, Tryz.f112] at hp8
  have q0 := p28 h.base.serial h.base.opn h.base.pend h.base.act h.base.ents ho.base
  unfold hisB
  rw [okS_is, allE_is]
  cases i0 : stB h.base
  · simp [code, Tryz.f112, hr, hg, hp8, q0, i0]
  by_cases i1 : h.evs.length ≤ 300
  · have c1 : ¬ (300 : Int) < (h.evs.length : Nat) := by omega
    by_cases i2 : h.safe < 0
    · have i4 : inI h.safe 0 h.evs.length = false := by simp [hg, inI]; omega
      simp [code, Tryz.f112, hr, hg, hp8, q0, i0, i1, i2, i4, c1]
    by_cases i3 : (h.evs.length : Int) < h.safe
    · have i4 : inI h.safe 0 h.evs.length = false := by simp [hg, inI]; omega
      simp [code, Tryz.f112, hr, hg, hp8, q0, i0, i1, i2, i3, i4, c1]
    have i4 : inI h.safe 0 h.evs.length = true := by simp [hg, inI]; omega
    simp [code, Tryz.f112, hr, hg, hp8, q0, i0, i1, i2, i3, i4, c1]
    refine (loop_to (s0 := ?s1) (fun i => h.evs.length - i) (fun i => [(3, (.pv false (.sc (.int .i64 ((i : Nat))))))]) (fun i => [(16, .box [(.pv false (.sc (.int .i64 h.base.serial))), (.pv false (.sc (.bool h.base.opn))), .pv false (.sl (nums .u8 h.base.pend)), (.pv false (.sc (.int .i64 h.base.act))), .pv false (.sl (rws nP h.base.ents)), .pv false (.sl (rws eP h.evs)), (.pv false (.sc (.int .i64 h.safe)))])]) (fun i K => (if allE (h.evs.drop i) = true then K [(3, (.pv false (.sc (.int .i64 h.evs.length))))] [(16, .box [(.pv false (.sc (.int .i64 h.base.serial))), (.pv false (.sc (.bool h.base.opn))), .pv false (.sl (nums .u8 h.base.pend)), (.pv false (.sc (.int .i64 h.base.act))), .pv false (.sl (rws nP h.base.ents)), .pv false (.sl (rws eP h.evs)), (.pv false (.sc (.int .i64 h.safe)))])] else some ((.pv false (.sc (.bool false))), []))) (fun i => i ≤ h.evs.length) 0 ?hc1 ?h01 ?hs1 ?step1).trans ?r1
    case hc1 => simp; rfl
    case h01 => first | (simp; done) | (simp [*]; done) | exact ⟨by simp, ⟨rfl⟩⟩ | grind | (simp; omega)
    case hs1 => first | (simp; done) | (simp [*]; done)
    case r1 =>
      cases ha : allE h.evs
      · simp [hg, ha]
      · have q1 := p177 h ho i0 (allE_mem ha) i1
        rw [foldE_ok] at q1
        generalize (foldE h.base h.evs).1 = fs at *
        simp [hg, ha, q1, hr, hg, hp8]
    intro k i hi ih
    simp [hg]
    by_cases hlt : i < h.evs.length
    · have he := ho.all _ (List.getElem_mem hlt)
      have r1 := p41 h.evs[i] he
      have hd := drop_at hlt
      rw [hd]
      simp only [allE]
      clear hd
      have w3 : IntKind.i64.wrap ((i : Int) + 1) = i + 1 := wrap_id' (by omega)
      by_cases hb : evB h.evs[i] = true
      · rw [hb] at r1
        simp [hg, hlt, r1, hb, w3, hr, hg, hp8]
        refine (ih.out (i + 1) _ ?_ ?_ ?_).trans ?_
        · omega
        · omega
        · simp [hg]
        · simp [hg]
      · have hb : evB h.evs[i] = false := by simpa using hb
        rw [hb] at r1
        simp [hg, hlt, r1, hb, hr, hg, hp8]
    · have e : i = h.evs.length := by omega
      subst e
      simp [hg, allE]
  · have c1 : (300 : Int) < (h.evs.length : Nat) := by omega
    simp [code, Tryz.f112, hr, hg, hp8, q0, i0, i1, c1]
  ) Tryz.f112 Tryz.results112 gl112)
theorem p47 (h : His) (ho : HOk h) : phi C0 (lim C0) 47 [.ag [(.pv false (.sc (.int .i64 h.base.serial))), (.pv false (.sc (.bool h.base.opn))), .pv false (.sl (nums .u8 h.base.pend)), (.pv false (.sc (.int .i64 h.base.act))), .pv false (.sl (rws nP h.base.ents)), .pv false (.sl (rws eP h.evs)), (.pv false (.sc (.int .i64 h.safe)))]] [] = some (.ref 16 0 (if hisB h then hisT h.base.serial h.evs else []).length, [(16, .row .own 5 1 (nums .u8 (if hisB h then hisT h.base.serial h.evs else [])))]) := call0 Tryz.func47 (by kernel_rfl) ((show ∀ fn : Func, fn.results = #[.tmp 2] → globs fn = [0, 1, 7, 4, 12, 3, 2] → lim C0 47 fn [.c (code Tryz.f47)] ⟨_, _⟩ = _ from fun fn hr hg => by
  have q0 := p112 h ho
  have hbf := @hisB_facts h ho
  cases hb : hisB h
  · rw [hb] at q0
    simp [code, Tryz.f47, hr, hg, q0]
  rw [hb] at q0 hbf
  obtain ⟨b1, b2, b3, b4, b5⟩ := hbf rfl
  simp only [if_true]
  simp [code, Tryz.f47, hr, hg, q0]
  refine (loop_to (s0 := ?s2) (fun i => h.evs.length - i) (fun i => [(3, slT 18 (hisT h.base.serial (h.evs.take i))), (4, (.pv false (.sc (.int .i64 ((i : Nat))))))]) (fun i => [(16, .box [(.pv false (.sc (.int .i64 h.base.serial))), (.pv false (.sc (.bool h.base.opn))), .pv false (.sl (nums .u8 h.base.pend)), (.pv false (.sc (.int .i64 h.base.act))), .pv false (.sl (rws nP h.base.ents)), .pv false (.sl (rws eP h.evs)), (.pv false (.sc (.int .i64 h.safe)))])] ++ slH 18 5 1 (numP .u8) (hisT h.base.serial (h.evs.take i))) (fun i K => K [(3, slT 18 (hisT h.base.serial h.evs)), (4, (.pv false (.sc (.int .i64 h.evs.length))))] ([(16, .box [(.pv false (.sc (.int .i64 h.base.serial))), (.pv false (.sc (.bool h.base.opn))), .pv false (.sl (nums .u8 h.base.pend)), (.pv false (.sc (.int .i64 h.base.act))), .pv false (.sl (rws nP h.base.ents)), .pv false (.sl (rws eP h.evs)), (.pv false (.sc (.int .i64 h.safe)))])] ++ slH 18 5 1 (numP .u8) (hisT h.base.serial h.evs))) (fun i => i ≤ h.evs.length) 0 ?hc2 ?h02 ?hs2 ?step2).trans ?r2
  case hc2 => simp; rfl
  case h02 => first | (simp; done) | (simp [*]; done) | exact ⟨by simp, ⟨rfl⟩⟩ | grind | (simp; omega)
  case hs2 => first | (simp; done) | (simp [*]; done)
  case r2 =>
    generalize hisT h.base.serial h.evs = T
    cases T <;> simp [hr, hg]
  intro k i hi ih
  by_cases hlt : i < h.evs.length
  · have he := ho.all _ (List.getElem_mem hlt)
    have hbe := b3 _ (List.getElem_mem hlt)
    have hbl := b4 _ (List.getElem_mem hlt)
    have hE := b5 i
    have e1 := hisT_take (n := h.base.serial) hlt
    have w1 : IntKind.i64.wrap (h.base.serial + (i : Int)) = h.base.serial + i := wrap_id' (by omega)
    have w2 : IntKind.i64.wrap (h.base.serial + (i : Int) + 1) = h.base.serial + i + 1 := wrap_id' (by omega)
    have w3 : IntKind.i64.wrap ((i : Int) + 1) = i + 1 := wrap_id' (by omega)
    have q1 := pDig (h.base.serial + i + 1) (by omega) (by omega)
    have q7 := p21 h.evs[i] he
    rw [hbe] at q7
    simp only [if_true] at q7
    have hgl := digT_len (n := h.base.serial + i + 1) (by omega) (by omega)
    unfold lnT at e1
    generalize hisT h.base.serial (h.evs.take i) = E at *
    generalize digT (h.base.serial + i + 1) = z at *
    generalize evT h.evs[i] = t at *
    rcases E with _ | ⟨a0, E⟩
    · have g0 := room_ok (n := z.length) (by omega)
      have m0 := max_ok' (n := z.length) (by omega)
      have g1 := room_ok (n := z.length + 1) (by omega)
      have m1 := max_ok' (n := z.length + 1) (by omega)
      have g2 := room_ok (n := z.length + 1 + t.length) (by omega)
      have m2 := max_ok' (n := z.length + 1 + t.length) (by omega)
      have g3 := room_ok (n := z.length + 1 + t.length + 1) (by omega)
      have m3 := max_ok' (n := z.length + 1 + t.length + 1) (by omega)
      have s0 := spare_no (a := z.length) (b := z.length) (by omega)
      have s1 := spare_no (a := z.length + 1) (b := z.length + 1) (by omega)
      have s2 := spare_no (a := z.length + 1 + t.length) (b := z.length + (t.length + 1)) (by omega)
      have l2 := le_ok' (a := z.length + 1 + t.length) (b := z.length + (t.length + 1)) (by omega)
      have k1 : List.take (z.length + 1) (z ++ [32]) = z ++ [32] := List.take_of_length_le (by simp [hg])
      have k2 : List.take (z.length + 1 + t.length) (z ++ 32 :: t) = z ++ 32 :: t := List.take_of_length_le (by simp [hg]; omega)
      simp [hg, hlt, q1, q7, w1, w2, w3, g0, m0, g1, m1, g2, m2, g3, m3, s0, s1, s2, l2, k1, k2, hr, hg]
      refine (ih.out (i + 1) _ ?_ ?_ ?_).trans ?_
      · omega
      · omega
      · rw [e1]; simp [hg]; try omega
      · rfl
    · have hE : E.length + 1 ≤ 318030000 := by simpa using hE
      obtain ⟨nn, hnn⟩ : ∃ nn, E.length + 1 = nn := ⟨_, rfl⟩
      have hnl : nn ≤ 318030000 := by omega
      have g0 := room_ok (n := nn + z.length) (by omega)
      have m0 := max_ok' (n := nn + z.length) (by omega)
      have g1 := room_ok (n := nn + z.length + 1) (by omega)
      have m1 := max_ok' (n := nn + z.length + 1) (by omega)
      have g2 := room_ok (n := nn + z.length + 1 + t.length) (by omega)
      have m2 := max_ok' (n := nn + z.length + 1 + t.length) (by omega)
      have g3 := room_ok (n := nn + z.length + 1 + t.length + 1) (by omega)
      have m3 := max_ok' (n := nn + z.length + 1 + t.length + 1) (by omega)
      have s0 := spare_no (a := nn + z.length) (b := E.length + z.length + 1) (by omega)
      have l0 := le_ok' (a := nn + z.length) (b := E.length + z.length + 1) (by omega)
      have s1 := spare_no (a := nn + z.length + 1) (b := E.length + (z.length + 1) + 1) (by omega)
      have l1 := le_ok' (a := nn + z.length + 1) (b := E.length + (z.length + 1) + 1) (by omega)
      have s2 := spare_no (a := nn + z.length + 1 + t.length) (b := E.length + (z.length + (t.length + 1)) + 1) (by omega)
      have l2 := le_ok' (a := nn + z.length + 1 + t.length) (b := E.length + (z.length + (t.length + 1)) + 1) (by omega)
      have s3 := spare_no (a := nn) (b := nn) (by omega)
      have k0 : List.take nn (a0 :: E) = a0 :: E := List.take_of_length_le (by simp [hg]; omega)
      have k1 : List.take (nn + z.length) (a0 :: (E ++ z)) = a0 :: (E ++ z) := List.take_of_length_le (by simp [hg]; omega)
      have k2 : List.take (nn + z.length + 1) (a0 :: (E ++ (z ++ [32]))) = a0 :: (E ++ (z ++ [32])) := List.take_of_length_le (by simp [hg]; omega)
      have k3 : List.take (nn + z.length + 1 + t.length) (a0 :: (E ++ (z ++ 32 :: t))) = a0 :: (E ++ (z ++ 32 :: t)) := List.take_of_length_le (by simp [hg]; omega)
      simp [hg, hlt, hnn, q1, q7, w1, w2, w3, g0, m0, g1, m1, g2, m2, g3, m3, s0, l0, s1, l1, s2, l2, s3, k0, k1, k2, k3, hr, hg]
      refine (ih.out (i + 1) _ ?_ ?_ ?_).trans ?_
      · omega
      · omega
      · rw [e1]; simp [hg]; try omega
      · rfl
  · have e : i = h.evs.length := by omega
    subst e
    simp [hg]
    generalize hisT h.base.serial h.evs = T
    cases T <;> simp [hg]
  ) Tryz.f47 Tryz.results47 gl47)
end Go.Proofs.YtgkhojgmpojodaaGreatDoor
