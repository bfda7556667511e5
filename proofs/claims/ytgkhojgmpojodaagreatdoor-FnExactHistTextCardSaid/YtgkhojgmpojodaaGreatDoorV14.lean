/- Texts of values, by the program. -/
import Derived.Test.YtgkhojgmpojodaaGreatDoorV13
namespace Go.Proofs.YtgkhojgmpojodaaGreatDoor
open Go Go.Pm Go.Proofs
set_option linter.unusedVariables false
set_option linter.unusedSimpArgs false
set_option maxRecDepth 100000
set_option maxHeartbeats 4000000
theorem p64 (v : Val) (acc : List Int) (b1 b2 b3 : Bool) (h1 : v.kind = 1 → v.n = 0 ∨ v.n = 1) (h2 : v.kind = 2 → -4611686018427387904 ≤ v.n ∧ v.n ≤ 4611686018427387904) (h3 : v.s.length ≤ 1048576) (h5 : v.kind = 5 → v.k.length = v.l.length) (hlen : acc.length + (sayV v).length ≤ 1099511627776) (hl : v.l.length ≤ 1048576) (ih0 : ∀ u ∈ v.l, ∀ (acc : List Int) (b1 b2 b3 : Bool), acc.length + (sayV u).length ≤ 1099511627776 → phi C0 (lim C0) 64 [.ag [(.pv false (.sc (.int .i64 u.kind))), (.pv false (.sc (.int .i64 u.n))), .pv b1 (.sl (nums .u8 u.s)), .pv b2 (.sl (rws byP u.k)), .pv b3 (.sl (rws vP u.l))], .ref 0 0 acc.length] [(0, .row .io 5 1 (nums .u8 acc))] = some (.ref 16 0 (acc.length + (sayV u).length), [(16, .row .io 5 1 (nums .u8 (acc ++ sayV u)))])) : phi C0 (lim C0) 64 [.ag [(.pv false (.sc (.int .i64 v.kind))), (.pv false (.sc (.int .i64 v.n))), .pv b1 (.sl (nums .u8 v.s)), .pv b2 (.sl (rws byP v.k)), .pv b3 (.sl (rws vP v.l))], .ref 0 0 acc.length] [(0, .row .io 5 1 (nums .u8 acc))] = some (.ref 16 0 (acc.length + (sayV v).length), [(16, .row .io 5 1 (nums .u8 (acc ++ sayV v)))]) := call0 Tryz.func64 (by kernel_rfl) ((show ∀ fn : Func, fn.results = #[.tmp 4] → globs fn = [0, 2, 12, 13, 1, 17, 24, 30, 35, 43, 42, 44, 41, 6, 52, 66, 7, 74, 73, 75, 72, 9, 80, 85, 10, 8, 4] → lim C0 64 fn [.c (code Tryz.f64)] ⟨_, _⟩ = _ from fun fn hr hg => by
  rw [sayV_eq] at hlen ⊢
  simp [code, Tryz.f64, hr, hg]
  by_cases k0 : v.kind = 0
  · simp only [k0, if_true] at hlen ⊢
    simp at hlen
    (simp [k0, hr, hg]); repeat (simp (disch := omega) only [room_ok, max_ok', spare_no, le_ok', and_self, true_and, and_true, if_true, if_false, ite_true, ite_false]; try simp [k0, hr, hg])
    simp [hg, rws]
  by_cases k1 : v.kind = 1
  · have q := fun b => p133 b acc (by omega)
    rcases h1 k1 with hn | hn
    · (simp [k1, hn, q, boolT, hr, hg]); repeat (simp (disch := omega) only [room_ok, max_ok', spare_no, le_ok', and_self, true_and, and_true, if_true, if_false, ite_true, ite_false]; try simp [k1, hn, q, boolT, hr, hg])
    · (simp [k1, hn, q, boolT, hr, hg]); repeat (simp (disch := omega) only [room_ok, max_ok', spare_no, le_ok', and_self, true_and, and_true, if_true, if_false, ite_true, ite_false]; try simp [k1, hn, q, boolT, hr, hg])
  by_cases k2 : v.kind = 2
  · have q := p65 v.n acc (h2 k2).1 (h2 k2).2 (by omega)
    (simp [k2, q, hr, hg]); repeat (simp (disch := omega) only [room_ok, max_ok', spare_no, le_ok', and_self, true_and, and_true, if_true, if_false, ite_true, ite_false]; try simp [k2, q, hr, hg])
  by_cases k3 : v.kind = 3
  · simp only [k0, k1, k2, k3, if_false, if_true] at hlen ⊢
    simp at hlen
    (simp [k3, hr, hg]); repeat (simp (disch := omega) only [room_ok, max_ok', spare_no, le_ok', and_self, true_and, and_true, if_true, if_false, ite_true, ite_false]; try simp [k3, hr, hg])
    refine (loop_to (s0 := ?s1) (fun i => v.s.length - i) (fun i => [(1, .ref 16 0 (acc.length + 1 + (quoB (v.s.take i)).length)), (43, (.pv false (.sc (.int .i64 ((i : Nat))))))]) (fun i => [(16, .row .io 5 1 (nums .u8 (acc ++ 34 :: quoB (v.s.take i)))), (18, .box [(.pv false (.sc (.int .i64 3))), (.pv false (.sc (.int .i64 v.n))), .pv b1 (.sl (nums .u8 v.s)), .pv b2 (.sl (rws byP v.k)), .pv b3 (.sl (rws vP v.l))])]) (fun i K => K [(1, .ref 16 0 (acc.length + 1 + (quoB v.s).length)), (43, (.pv false (.sc (.int .i64 v.s.length))))] [(16, .row .io 5 1 (nums .u8 (acc ++ 34 :: quoB v.s))), (18, .box [(.pv false (.sc (.int .i64 3))), (.pv false (.sc (.int .i64 v.n))), .pv b1 (.sl (nums .u8 v.s)), .pv b2 (.sl (rws byP v.k)), .pv b3 (.sl (rws vP v.l))])]) (fun i => i ≤ v.s.length) 0 ?hc1 ?h01 ?hs1 ?step1).trans ?r1
    case hc1 => simp; rfl
    case h01 => first | (simp; done) | (simp [*]; done) | exact ⟨by simp, ⟨rfl⟩⟩ | grind | (simp; omega)
    case hs1 => first | (simp; done) | (simp [*]; done)
    case r1 =>
      have hq := quoB_len v.s
      unfold quoT
      (simp [hr, hg]); repeat (simp (disch := omega) only [room_ok, max_ok', spare_no, le_ok', and_self, true_and, and_true, if_true, if_false, ite_true, ite_false]; try simp [hr, hg])
      (repeat rw [List.take_of_length_le (by first | (simp; done) | (simp; omega))])
      exact ⟨by omega, by simp [hg]⟩
    intro k i hi ih
    simp [hg]
    (first | refine ifL_cases (fun h => ?_) (fun h => ?_) | refine gI_cases' (fun h => ?_) (fun h => ?_) | refine gI_cases (fun h => ?_) (fun h => ?_) | refine dI_cases' (fun h => ?_) (fun h => ?_) | refine dI_cases (fun h => ?_) (fun h => ?_)) <;> first | replace h := of_decide_eq_true h | replace h := of_decide_eq_false h | skip
    · have hlt := h
      have hq := quoB_len (v.s.take i)
      have hq2 : (v.s.take i).length ≤ i := by simp [hg]; omega
      have e : quoB (v.s.take (i + 1)) = quoB (v.s.take i) ++ quoB [v.s[i]] := by rw [take_at hlt, quoB_app]
      have e3 : quoB [v.s[i]] = if v.s[i] = 34 ∨ v.s[i] = 92 then [92, v.s[i]] else [v.s[i]] := by simp [hg, quoB]
      generalize quoB (v.s.take i) = ac at *
      by_cases h34 : v.s[i] = 34
      · rw [h34] at e3
        simp only [true_or, if_true] at e3
        rw [h34, e3] at e
        (simp [hlt, h34, hr, hg]); repeat (simp (disch := omega) only [room_ok, max_ok', spare_no, le_ok', and_self, true_and, and_true, if_true, if_false, ite_true, ite_false]; try simp [hlt, h34, hr, hg])
        (repeat rw [List.take_of_length_le (by first | (simp; done) | (simp; omega))])
        try simp (disch := omega) only [wrap_id']
        refine (ih.out (i + 1) _ ?_ ?_ ?_).trans ?_
        · omega
        · omega
        · simp [hg, e, rws]; try omega
        · simp [hg]
      by_cases h92 : v.s[i] = 92
      · rw [h92] at e3
        simp only [or_true, if_true] at e3
        rw [h92, e3] at e
        (simp [hlt, h92, hr, hg]); repeat (simp (disch := omega) only [room_ok, max_ok', spare_no, le_ok', and_self, true_and, and_true, if_true, if_false, ite_true, ite_false]; try simp [hlt, h92, hr, hg])
        (repeat rw [List.take_of_length_le (by first | (simp; done) | (simp; omega))])
        try simp (disch := omega) only [wrap_id']
        refine (ih.out (i + 1) _ ?_ ?_ ?_).trans ?_
        · omega
        · omega
        · simp [hg, e, rws]; try omega
        · simp [hg]
      · rw [if_neg (by simp [hg, h34, h92])] at e3
        rw [e3] at e
        (simp [hlt, h34, h92, hr, hg]); repeat (simp (disch := omega) only [room_ok, max_ok', spare_no, le_ok', and_self, true_and, and_true, if_true, if_false, ite_true, ite_false]; try simp [hlt, h34, h92, hr, hg])
        (repeat rw [List.take_of_length_le (by first | (simp; done) | (simp; omega))])
        try simp (disch := omega) only [wrap_id']
        refine (ih.out (i + 1) _ ?_ ?_ ?_).trans ?_
        · omega
        · omega
        · simp [hg, e, rws]; try omega
        · simp [hg]
    · have e : i = v.s.length := by omega
      subst e
      simp [hg]
  by_cases k6 : v.kind = 6
  · simp only [k0, k1, k2, k3, k6, if_false, if_true] at hlen ⊢
    (simp [k6, hr, hg]); repeat (simp (disch := omega) only [room_ok, max_ok', spare_no, le_ok', and_self, true_and, and_true, if_true, if_false, ite_true, ite_false]; try simp [k6, hr, hg])
  simp only [k0, k1, k2, k3, k6, if_false] at hlen ⊢
  by_cases k5 : v.kind = 5
  · simp only [k5, if_true, decide_true] at hlen ⊢
    have h5 := h5 k5
    (simp [k5, hr, hg]); repeat (simp (disch := omega) only [room_ok, max_ok', spare_no, le_ok', and_self, true_and, and_true, if_true, if_false, ite_true, ite_false]; try simp [k5, hr, hg])
    refine (loop_to (s0 := ?s2) (fun i => v.l.length - i) (fun i => [(1, .ref 16 0 (acc.length + 1 + (sayL true true v.k (v.l.take i)).length)), (74, (.pv false (.sc (.int .i64 ((i : Nat))))))]) (fun i => [(16, .row .io 5 1 (nums .u8 (acc ++ 123 :: sayL true true v.k (v.l.take i)))), (18, .box [(.pv false (.sc (.int .i64 5))), (.pv false (.sc (.int .i64 v.n))), .pv b1 (.sl (nums .u8 v.s)), .pv b2 (.sl (rws byP v.k)), .pv b3 (.sl (rws vP v.l))])]) (fun i K => K [(1, .ref 16 0 (acc.length + 1 + (sayL true true v.k v.l).length)), (74, (.pv false (.sc (.int .i64 v.l.length))))] [(16, .row .io 5 1 (nums .u8 (acc ++ 123 :: sayL true true v.k v.l))), (18, .box [(.pv false (.sc (.int .i64 5))), (.pv false (.sc (.int .i64 v.n))), .pv b1 (.sl (nums .u8 v.s)), .pv b2 (.sl (rws byP v.k)), .pv b3 (.sl (rws vP v.l))])]) (fun i => i ≤ v.l.length) 0 ?hc2 ?h02 ?hs2 ?step2).trans ?r2
    case hc2 => simp; rfl
    case h02 => first | (simp; done) | (simp [*]; done) | exact ⟨by simp, ⟨rfl⟩⟩ | grind | (simp; omega)
    case hs2 => first | (simp; done) | (simp [*]; done)
    case r2 =>
      simp at hlen
      (simp [hr, hg]); repeat (simp (disch := omega) only [room_ok, max_ok', spare_no, le_ok', and_self, true_and, and_true, if_true, if_false, ite_true, ite_false]; try simp [hr, hg])
      (repeat rw [List.take_of_length_le (by first | (simp; done) | (simp; omega))])
      exact ⟨by omega, by simp [hg]⟩
    intro k i hi ih
    simp [hg]
    (first | refine ifL_cases (fun h => ?_) (fun h => ?_) | refine gI_cases' (fun h => ?_) (fun h => ?_) | refine gI_cases (fun h => ?_) (fun h => ?_) | refine dI_cases' (fun h => ?_) (fun h => ?_) | refine dI_cases (fun h => ?_) (fun h => ?_)) <;> first | replace h := of_decide_eq_true h | replace h := of_decide_eq_false h | skip
    · have hlt := h
      have q := fun a b1 b2 b3 => ih0 v.l[i] (List.getElem_mem hlt) a b1 b2 b3
      have e := sayL_take (m := true) i true v.k v.l hlt
      have e2 := sayL_pre (m := true) (i + 1) true v.k v.l
      have e3 := sayL_pre (m := true) i true v.k v.l
      simp at hlen
      rw [e] at e2
      simp only [List.length_append] at e2
      have hlk : i < v.k.length := by omega
      have ek : keyT true (v.k.drop i) = v.k[i] ++ [32, 61, 32] := by rw [drop_at hlk]; rfl
      rw [ek] at e e2
      try simp only [List.length_append] at e2
      generalize hA : sayL true true v.k (v.l.take i) = ac at *
      generalize hU : sayV v.l[i] = u at *
      by_cases hi0 : i = 0
      · have hi1 : ¬ 0 < i := by omega
        have hd : decide (i = 0) = true := by simp [hg, hi0]
        rw [hd] at e e2
        simp at e e2
        have q := q (acc ++ 123 :: ac ++ v.k[i] ++ [32, 61, 32]) false false false (by simp [hg]; omega)
        have eL : (acc ++ 123 :: ac ++ v.k[i] ++ [32, 61, 32]).length = acc.length + 1 + ac.length + v.k[i].length + 3 := by simp [hg]; omega
        have eR : nums .u8 (acc ++ 123 :: ac ++ v.k[i] ++ [32, 61, 32]) = rws (numP .u8) (acc ++ 123 :: ac ++ v.k[i]) ++ [[.sc (.int .u8 32)], [.sc (.int .u8 61)], [.sc (.int .u8 32)]] := by simp [hg, rws]
        rw [eL, eR] at q
        (simp [hlt, hi1, hlk, byP, k5, hr, hg]); repeat (simp (disch := omega) only [room_ok, max_ok', spare_no, le_ok', and_self, true_and, and_true, if_true, if_false, ite_true, ite_false]; try simp [hlt, hi1, hlk, byP, k5, hr, hg])
        (repeat rw [List.take_of_length_le (by first | (simp; done) | (simp; omega))])
        rw [q]
        (simp [hlt, hi1, hlk, byP, k5, hr, hg]); repeat (simp (disch := omega) only [room_ok, max_ok', spare_no, le_ok', and_self, true_and, and_true, if_true, if_false, ite_true, ite_false]; try simp [hlt, hi1, hlk, byP, k5, hr, hg])
        (repeat rw [List.take_of_length_le (by first | (simp; done) | (simp; omega))])
        try simp (disch := omega) only [wrap_id']
        refine (ih.out (i + 1) _ ?_ ?_ ?_).trans ?_
        · omega
        · omega
        · simp [hg, e, rws]; try omega
        · simp [hg]
      · have hi1 : 0 < i := by omega
        have hd : decide (i = 0) = false := by simp [hg, hi0]
        rw [hd] at e e2
        simp at e e2
        have q := q (acc ++ 123 :: ac ++ [44, 32] ++ v.k[i] ++ [32, 61, 32]) false false false (by simp [hg]; omega)
        have eL : (acc ++ 123 :: ac ++ [44, 32] ++ v.k[i] ++ [32, 61, 32]).length = acc.length + 1 + ac.length + 2 + v.k[i].length + 3 := by simp [hg]; omega
        have eR : nums .u8 (acc ++ 123 :: ac ++ [44, 32] ++ v.k[i] ++ [32, 61, 32]) = rws (numP .u8) (acc ++ 123 :: ac) ++ [[.sc (.int .u8 44)], [.sc (.int .u8 32)]] ++ nums .u8 v.k[i] ++ [[.sc (.int .u8 32)], [.sc (.int .u8 61)], [.sc (.int .u8 32)]] := by simp [hg, rws]
        rw [eL, eR] at q
        (simp [hlt, hi1, hlk, byP, k5, hr, hg]); repeat (simp (disch := omega) only [room_ok, max_ok', spare_no, le_ok', and_self, true_and, and_true, if_true, if_false, ite_true, ite_false]; try simp [hlt, hi1, hlk, byP, k5, hr, hg])
        (repeat rw [List.take_of_length_le (by first | (simp; done) | (simp; omega))])
        rw [q]
        (simp [hlt, hi1, hlk, byP, k5, hr, hg]); repeat (simp (disch := omega) only [room_ok, max_ok', spare_no, le_ok', and_self, true_and, and_true, if_true, if_false, ite_true, ite_false]; try simp [hlt, hi1, hlk, byP, k5, hr, hg])
        (repeat rw [List.take_of_length_le (by first | (simp; done) | (simp; omega))])
        try simp (disch := omega) only [wrap_id']
        refine (ih.out (i + 1) _ ?_ ?_ ?_).trans ?_
        · omega
        · omega
        · simp [hg, e, rws]; try omega
        · simp [hg]
    · have e : i = v.l.length := by omega
      subst e
      simp [hg]
  · simp only [k5, if_false, decide_false] at hlen ⊢
    (simp [k0, k1, k2, k3, k5, k6, hr, hg]); repeat (simp (disch := omega) only [room_ok, max_ok', spare_no, le_ok', and_self, true_and, and_true, if_true, if_false, ite_true, ite_false]; try simp [k0, k1, k2, k3, k5, k6, hr, hg])
    refine (loop_to (s0 := ?s3) (fun i => v.l.length - i) (fun i => [(1, .ref 16 0 (acc.length + 1 + (sayL false true v.k (v.l.take i)).length)), (74, (.pv false (.sc (.int .i64 ((i : Nat))))))]) (fun i => [(16, .row .io 5 1 (nums .u8 (acc ++ 91 :: sayL false true v.k (v.l.take i)))), (18, .box [(.pv false (.sc (.int .i64 v.kind))), (.pv false (.sc (.int .i64 v.n))), .pv b1 (.sl (nums .u8 v.s)), .pv b2 (.sl (rws byP v.k)), .pv b3 (.sl (rws vP v.l))])]) (fun i K => K [(1, .ref 16 0 (acc.length + 1 + (sayL false true v.k v.l).length)), (74, (.pv false (.sc (.int .i64 v.l.length))))] [(16, .row .io 5 1 (nums .u8 (acc ++ 91 :: sayL false true v.k v.l))), (18, .box [(.pv false (.sc (.int .i64 v.kind))), (.pv false (.sc (.int .i64 v.n))), .pv b1 (.sl (nums .u8 v.s)), .pv b2 (.sl (rws byP v.k)), .pv b3 (.sl (rws vP v.l))])]) (fun i => i ≤ v.l.length) 0 ?hc3 ?h03 ?hs3 ?step3).trans ?r3
    case hc3 => simp; rfl
    case h03 => first | (simp; done) | (simp [*]; done) | exact ⟨by simp, ⟨rfl⟩⟩ | grind | (simp; omega)
    case hs3 => first | (simp; done) | (simp [*]; done)
    case r3 =>
      simp at hlen
      (simp [hr, hg]); repeat (simp (disch := omega) only [room_ok, max_ok', spare_no, le_ok', and_self, true_and, and_true, if_true, if_false, ite_true, ite_false]; try simp [hr, hg])
      (repeat rw [List.take_of_length_le (by first | (simp; done) | (simp; omega))])
      exact ⟨by omega, by simp [hg]⟩
    intro k i hi ih
    simp [hg]
    (first | refine ifL_cases (fun h => ?_) (fun h => ?_) | refine gI_cases' (fun h => ?_) (fun h => ?_) | refine gI_cases (fun h => ?_) (fun h => ?_) | refine dI_cases' (fun h => ?_) (fun h => ?_) | refine dI_cases (fun h => ?_) (fun h => ?_)) <;> first | replace h := of_decide_eq_true h | replace h := of_decide_eq_false h | skip
    · have hlt := h
      have q := fun a b1 b2 b3 => ih0 v.l[i] (List.getElem_mem hlt) a b1 b2 b3
      have e := sayL_take (m := false) i true v.k v.l hlt
      have e2 := sayL_pre (m := false) (i + 1) true v.k v.l
      have e3 := sayL_pre (m := false) i true v.k v.l
      simp at hlen
      rw [e] at e2
      simp only [List.length_append] at e2
      have ek : keyT false (v.k.drop i) = [] := rfl
      rw [ek] at e e2
      try simp only [List.length_append] at e2
      generalize hA : sayL false true v.k (v.l.take i) = ac at *
      generalize hU : sayV v.l[i] = u at *
      by_cases hi0 : i = 0
      · have hi1 : ¬ 0 < i := by omega
        have hd : decide (i = 0) = true := by simp [hg, hi0]
        rw [hd] at e e2
        simp at e e2
        have q := q (acc ++ 91 :: ac) false false false (by simp [hg]; omega)
        have eL : (acc ++ 91 :: ac).length = acc.length + 1 + ac.length := by simp [hg]; omega
        rw [eL] at q
        (simp [hlt, hi1, q, k5, hr, hg]); repeat (simp (disch := omega) only [room_ok, max_ok', spare_no, le_ok', and_self, true_and, and_true, if_true, if_false, ite_true, ite_false]; try simp [hlt, hi1, q, k5, hr, hg])
        (repeat rw [List.take_of_length_le (by first | (simp; done) | (simp; omega))])
        try simp (disch := omega) only [wrap_id']
        refine (ih.out (i + 1) _ ?_ ?_ ?_).trans ?_
        · omega
        · omega
        · simp [hg, e, rws]; try omega
        · simp [hg]
      · have hi1 : 0 < i := by omega
        have hd : decide (i = 0) = false := by simp [hg, hi0]
        rw [hd] at e e2
        simp at e e2
        have q := q (acc ++ 91 :: ac ++ [44, 32]) false false false (by simp [hg]; omega)
        have eL : (acc ++ 91 :: ac ++ [44, 32]).length = acc.length + 1 + ac.length + 2 := by simp [hg]; omega
        have eR : nums .u8 (acc ++ 91 :: ac ++ [44, 32]) = rws (numP .u8) (acc ++ 91 :: ac) ++ [[.sc (.int .u8 44)], [.sc (.int .u8 32)]] := by simp [hg, rws]
        rw [eL, eR] at q
        (simp [hlt, hi1, k5, hr, hg]); repeat (simp (disch := omega) only [room_ok, max_ok', spare_no, le_ok', and_self, true_and, and_true, if_true, if_false, ite_true, ite_false]; try simp [hlt, hi1, k5, hr, hg])
        (repeat rw [List.take_of_length_le (by first | (simp; done) | (simp; omega))])
        rw [q]
        (simp [hlt, hi1, k5, hr, hg]); repeat (simp (disch := omega) only [room_ok, max_ok', spare_no, le_ok', and_self, true_and, and_true, if_true, if_false, ite_true, ite_false]; try simp [hlt, hi1, k5, hr, hg])
        (repeat rw [List.take_of_length_le (by first | (simp; done) | (simp; omega))])
        try simp (disch := omega) only [wrap_id']
        refine (ih.out (i + 1) _ ?_ ?_ ?_).trans ?_
        · omega
        · omega
        · simp [hg, e, rws]; try omega
        · simp [hg]
    · have e : i = v.l.length := by omega
      subst e
      simp [hg]
  ) Tryz.f64 Tryz.results64 gl64)
end Go.Proofs.YtgkhojgmpojodaaGreatDoor
