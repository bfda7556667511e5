/- Texts of plans, by the program. -/
import Derived.Test.YtgkhojgmpojodaaGreatDoorV14
import Derived.Test.YtgkhojgmpojodaaGreatDoorV11
namespace Go.Proofs.YtgkhojgmpojodaaGreatDoor
open Go Go.Pm Go.Proofs
set_option linter.unusedVariables false
set_option linter.unusedSimpArgs false
set_option maxRecDepth 100000
set_option maxHeartbeats 4000000
theorem pText (v : Val) (hv : VSay v) : ∀ (acc : List Int) (b1 b2 b3 : Bool), acc.length + (sayV v).length ≤ 1099511627776 → phi C0 (lim C0) 64 [.ag [(.pv false (.sc (.int .i64 v.kind))), (.pv false (.sc (.int .i64 v.n))), .pv b1 (.sl (nums .u8 v.s)), .pv b2 (.sl (rws byP v.k)), .pv b3 (.sl (rws vP v.l))], .ref 0 0 acc.length] [(0, .row .io 5 1 (nums .u8 acc))] = some (.ref 16 0 (acc.length + (sayV v).length), [(16, .row .io 5 1 (nums .u8 (acc ++ sayV v)))]) := by
  revert hv
  refine Val.ind1 (P := fun v => VSay v → ∀ (acc : List Int) (b1 b2 b3 : Bool), acc.length + (sayV v).length ≤ 1099511627776 → phi C0 (lim C0) 64 [.ag [(.pv false (.sc (.int .i64 v.kind))), (.pv false (.sc (.int .i64 v.n))), .pv b1 (.sl (nums .u8 v.s)), .pv b2 (.sl (rws byP v.k)), .pv b3 (.sl (rws vP v.l))], .ref 0 0 acc.length] [(0, .row .io 5 1 (nums .u8 acc))] = some (.ref 16 0 (acc.length + (sayV v).length), [(16, .row .io 5 1 (nums .u8 (acc ++ sayV v)))])) (fun v ih hv acc b1 b2 b3 hl => ?_) v
  obtain ⟨a1, a2, a3, a4, a5, a6⟩ := hv.here
  exact p64 v acc b1 b2 b3 a1 a2 a3 a4 hl a6 fun u hu => ih u hu (hv.sub u hu)
theorem p63 (n : Int) (h0 : 1 ≤ n) (h : n ≤ 4) : phi C0 (lim C0) 63 [(.pv false (.sc (.int .i64 n)))] [] = some (.pv false (.sc (.string (strOfNums (actT n)))), []) := call0 Tryz.func63 (by kernel_rfl) ((show ∀ fn : Func, fn.results = #[.tmp 2] → lim C0 63 fn [.c (code Tryz.f63)] ⟨_, _⟩ = _ from fun fn hr => by
  obtain ⟨m, rfl⟩ := Int.eq_ofNat_of_zero_le (show 0 ≤ n by omega)
  rcases m with _ | _ | _ | _ | _ | m
  all_goals (try omega)
  all_goals simp [code, Tryz.f63, hr, actT]
  all_goals rfl
  ) Tryz.f63 Tryz.results63)
theorem p14 (b : Bool) (l : List Act) (same : Int) (hl : l.length ≤ 1048576) (ha : ∀ a ∈ l, ALen a ∧ AOk a) : phi C0 (lim C0) 14 [.ag [.pv b (.sl (rws aP l)), (.pv false (.sc (.int .i64 same)))]] [] = some (.ref 16 0 (if planB l same then planT l same else []).length, [(16, .row .own 5 1 (nums .u8 (if planB l same then planT l same else [])))]) := call0 Tryz.func14 (by kernel_rfl) ((show ∀ fn : Func, fn.results = #[.tmp 2] → globs fn = [0, 1, 8, 13, 12, 14, 11, 5, 3, 29, 2] → lim C0 14 fn [.c (code Tryz.f14)] ⟨_, _⟩ = _ from fun fn hr hg => by
  have hp7 := plan14_7
  simp [opsOf, code, Tryz.f14] at hp7
  have hp9 := plan14_9
  simp [opsOf, code, Tryz.f14] at hp9
  have hp12 := plan14_12
  simp [opsOf, code, Tryz.f14] at hp12
  have q0 := p62 b l same hl (fun a h => (ha a h).2)
  have hab : planB l same = true → anyB (fun a => !actB a) l = false ∧ 0 ≤ same ∧ same ≤ 16 ∧ l.length ≤ 32 := fun h => by
    unfold planB inI at h
    simp at h
    exact ⟨h.2, h.1.2.1, h.1.2.2, h.1.1⟩
  cases hp : planB l same
  · rw [hp] at q0
    simp [code, Tryz.f14, hr, hg, hp7, hp9, hp12, q0]
  · rw [hp] at q0
    obtain ⟨hn, hs0, hs1, hl32⟩ := hab hp
    have hno : ∀ a ∈ l, actB a = true := fun a hm => by have := any_no hn a hm; simpa using this
    simp [code, Tryz.f14, hr, hg, hp7, hp9, hp12, q0]
    refine (loop_to (s0 := ?s1) (fun i => l.length - i) (fun i => [(3, .ref 18 0 (linesT (l.take i)).length), (13, (.pv false (.sc (.int .i64 ((i : Nat))))))]) (fun i => [(16, .box [.pv b (.sl (rws aP l)), (.pv false (.sc (.int .i64 same)))]), (18, .row .own 5 1 (nums .u8 (linesT (l.take i))))]) (fun i K => K [(3, .ref 18 0 (linesT l).length), (13, (.pv false (.sc (.int .i64 l.length))))] [(16, .box [.pv b (.sl (rws aP l)), (.pv false (.sc (.int .i64 same)))]), (18, .row .own 5 1 (nums .u8 (linesT l)))]) (fun i => i ≤ l.length) 0 ?hc1 ?h01 ?hs1 ?step1).trans ?r1
    case hc1 => simp; rfl
    case h01 => first | (simp; done) | (simp [*]; done) | exact ⟨by simp, ⟨rfl⟩⟩ | grind | (simp; omega)
    case hs1 => first | (simp; done) | (simp [*]; done)
    case r1 =>
      have hL := linesT_len (l := l) (fun a hm => ⟨hno a hm, (ha a hm).1.addr⟩)
      have q := p65 same (linesT l ++ [107, 101, 101, 112, 32]) (by omega) (by omega) (by simp [hg]; omega)
      have hd := digT_len (n := same) (by omega) (by omega)
      unfold planT
      generalize linesT l = acc at *
      generalize digT same = d at *
      have eL : (acc ++ [107, 101, 101, 112, 32]).length = acc.length + 5 := by simp [hg]
      have eR : nums .u8 (acc ++ [107, 101, 101, 112, 32]) = rws (numP .u8) acc ++ [[.sc (.int .u8 107)], [.sc (.int .u8 101)], [.sc (.int .u8 101)], [.sc (.int .u8 112)], [.sc (.int .u8 32)]] := by simp [hg, rws]
      rw [eL, eR] at q
      have k1 : List.take (acc.length + 5 + d.length) (acc ++ 107 :: 101 :: 101 :: 112 :: 32 :: d) = acc ++ 107 :: 101 :: 101 :: 112 :: 32 :: d := List.take_of_length_le (by simp [hg]; omega)
      have g0 := room_ok (n := acc.length + 5) (by omega)
      have m0 := max_ok' (n := acc.length + 5) (by omega)
      have g1 := room_ok (n := acc.length + 5 + d.length + 1) (by omega)
      have m1 := max_ok' (n := acc.length + 5 + d.length + 1) (by omega)
      have s1 := spare_no (a := acc.length + 5 + d.length) (b := acc.length + (d.length + 1 + 1 + 1 + 1 + 1)) (by omega)
      have l1 := le_ok' (a := acc.length + 5 + d.length) (b := acc.length + (d.length + 1 + 1 + 1 + 1 + 1)) (by omega)
      simp [hg, q, k1, g0, m0, g1, m1, s1, l1, hr, hg, hp7, hp9, hp12]
      try omega
    intro k i hi ih
    simp [hg]
    (first | refine ifL_cases (fun h => ?_) (fun h => ?_) | refine gI_cases' (fun h => ?_) (fun h => ?_) | refine gI_cases (fun h => ?_) (fun h => ?_) | refine dI_cases' (fun h => ?_) (fun h => ?_) | refine dI_cases (fun h => ?_) (fun h => ?_)) <;> first | replace h := of_decide_eq_true h | replace h := of_decide_eq_false h | skip
    · have hlt := h
      have hm := List.getElem_mem hlt
      have hok := hno _ hm
      have hacc := linesT_len (l := l.take i) (fun a h => ⟨hno a (List.mem_of_mem_take h), (ha a (List.mem_of_mem_take h)).1.addr⟩)
      have e1 := linesT_take hlt
      have e2 : (l.take i).length ≤ 32 := by simp [hg]; omega
      have hb : 1 ≤ l[i].act ∧ l[i].act ≤ 4 := by simp [hg, actB, inI] at hok; omega
      have hb2 : valB l[i].val = true := by simp [hg, actB] at hok; exact hok.2
      have q3 := p63 l[i].act (by omega) (by omega)
      obtain ⟨w1, w2, w3⟩ := actT_ok l[i].act
      have q4 := bytes_back w1
      have q5 : (strOfNums (actT l[i].act)).size = (actT l[i].act).length := strOfNums_size _
      have hv5 : shV l[i].val 5 = true ∧ ptV l[i].val ≤ 40 := by simpa [valB] using hb2
      have hu := say_len l[i].val 5 hv5.1
      have hd : l[i].addr.length ≤ 1048576 := (ha _ hm).1.addr
      unfold lineT at e1
      have q6 := fun a => pText l[i].val (sh_say _ 5 hv5.1 (ha _ hm).1.vl (by omega)) a
      generalize sayV l[i].val = u at *
      generalize actT l[i].act = w at *
      generalize linesT (l.take i) = acc at *
      obtain ⟨d, hd0⟩ : ∃ d, l[i].addr = d := ⟨_, rfl⟩
      rw [hd0] at hd e1
      have k1 : List.take (acc.length + w.length) (acc ++ w) = acc ++ w := List.take_of_length_le (by simp [hg])
      have k2 : List.take (acc.length + w.length + 1) (acc ++ (w ++ [32])) = acc ++ (w ++ [32]) := List.take_of_length_le (by simp [hg]; omega)
      have k3 : List.take (acc.length + w.length + 1 + d.length) (acc ++ (w ++ 32 :: d)) = acc ++ (w ++ 32 :: d) := List.take_of_length_le (by simp [hg]; omega)
      have k4 : List.take (acc.length + w.length + 1 + d.length + 1) (acc ++ (w ++ 32 :: (d ++ [32]))) = acc ++ (w ++ 32 :: (d ++ [32])) := List.take_of_length_le (by simp [hg]; omega)
      have k5 : List.take (acc.length + w.length + 1 + d.length + 1 + u.length) (acc ++ (w ++ 32 :: (d ++ 32 :: u))) = acc ++ (w ++ 32 :: (d ++ 32 :: u)) := List.take_of_length_le (by simp [hg]; omega)
      have q := q6 (acc ++ (w ++ 32 :: (d ++ [32]))) false false false (by simp [hg]; omega)
      have eL : (acc ++ (w ++ 32 :: (d ++ [32]))).length = acc.length + w.length + 1 + d.length + 1 := by simp [hg]; omega
      rw [eL] at q
      have g0 := room_ok (n := acc.length + w.length) (by omega)
      have m0 := max_ok' (n := acc.length + w.length) (by omega)
      have g1 := room_ok (n := acc.length + w.length + 1) (by omega)
      have m1 := max_ok' (n := acc.length + w.length + 1) (by omega)
      have g2 := room_ok (n := acc.length + w.length + 1 + d.length) (by omega)
      have m2 := max_ok' (n := acc.length + w.length + 1 + d.length) (by omega)
      have g3 := room_ok (n := acc.length + w.length + 1 + d.length + 1) (by omega)
      have m3 := max_ok' (n := acc.length + w.length + 1 + d.length + 1) (by omega)
      have g4 := room_ok (n := acc.length + w.length + 1 + d.length + 1 + u.length + 1) (by omega)
      have m4 := max_ok' (n := acc.length + w.length + 1 + d.length + 1 + u.length + 1) (by omega)
      have s0 := spare_no (a := acc.length + w.length + 1) (b := acc.length + (w.length + 1)) (by omega)
      have l0 := le_ok' (a := acc.length + w.length + 1) (b := acc.length + (w.length + 1)) (by omega)
      have s1 := spare_no (a := acc.length + w.length + 1 + d.length) (b := acc.length + (w.length + (d.length + 1))) (by omega)
      have l1 := le_ok' (a := acc.length + w.length + 1 + d.length) (b := acc.length + (w.length + (d.length + 1))) (by omega)
      have s2 := spare_no (a := acc.length + w.length + 1 + d.length + 1) (b := acc.length + (w.length + (d.length + 1 + 1))) (by omega)
      have l2 := le_ok' (a := acc.length + w.length + 1 + d.length + 1) (b := acc.length + (w.length + (d.length + 1 + 1))) (by omega)
      have s3 := spare_no (a := acc.length + w.length + 1 + d.length + 1 + u.length) (b := acc.length + (w.length + (d.length + (u.length + 1) + 1))) (by omega)
      have l3 := le_ok' (a := acc.length + w.length + 1 + d.length + 1 + u.length) (b := acc.length + (w.length + (d.length + (u.length + 1) + 1))) (by omega)
      by_cases h4 : l[i].act = 4
      · rw [if_pos h4] at e1
        rw [h4] at q3
        simp [hg, hlt, q3, q4, q5, h4, hd0, k1, k2, k3, k4, k5, g0, m0, g1, m1, g2, m2, g3, m3, g4, m4, s0, l0, s1, l1, s2, l2, s3, l3, hr, hg, hp7, hp9, hp12]
        try simp (disch := omega) only [wrap_id']
        refine (ih.out (i + 1) _ ?_ ?_ ?_).trans ?_
        · omega
        · omega
        · rw [e1]; simp [hg, rws]; try omega
        · simp [hg]
      · rw [if_neg h4] at e1
        simp [hg, hlt, q3, q4, q5, q, h4, hd0, k1, k2, k3, k4, k5, g0, m0, g1, m1, g2, m2, g3, m3, g4, m4, s0, l0, s1, l1, s2, l2, s3, l3, hr, hg, hp7, hp9, hp12]
        try simp (disch := omega) only [wrap_id']
        refine (ih.out (i + 1) _ ?_ ?_ ?_).trans ?_
        · omega
        · omega
        · rw [e1]; simp [hg, rws]; try omega
        · simp [hg]
    · have e : i = l.length := by omega
      subst e
      simp [hg]
  ) Tryz.f14 Tryz.results14 gl14)
end Go.Proofs.YtgkhojgmpojodaaGreatDoor
