/- Texts of plans, by the reference. -/
import Derived.Test.YtgbfmdihmnpcdaaGreatDoorV6
namespace Go.Proofs.YtgbfmdihmnpcdaaGreatDoor
open Go Go.Pm Go.Proofs
set_option linter.unusedVariables false
set_option linter.unusedSimpArgs false
set_option maxRecDepth 100000
set_option maxHeartbeats 4000000
theorem wrap_u8 {a : Int} (h : 0 ≤ a ∧ a < 256) : IntKind.u8.wrap a = a := by
  rw [IntKind.wrap_u8]
  omega
theorem rws_cons {α : Type} (f : α → List PV) (a : α) (l : List α) : rws f (a :: l) = f a :: rws f l := rfl
theorem take_snoc (l : List Int) (c : Int) : (l ++ [c]).take (l.length + 1) = l ++ [c] := List.take_of_length_le (by simp)
theorem max_ok' {n : Nat} (h : n ≤ 140737488355328) : (n ≤ Pm.maxL) = True := eq_true (Nat.le_trans h (by decide))
theorem le_ok' {a b : Nat} (h : a ≤ b) : (a ≤ b) = True := eq_true h
/-! ### numbers -/
theorem digN_len : ∀ (k n : Nat), n < 10 ^ (k + 1) → (digN n).length ≤ k + 1
  | 0, n, h => by rw [digN, if_pos (by simpa using h)]; simp
  | k + 1, n, h => by
    rw [digN]
    split
    · simp
    · have := digN_len k (n / 10) (by rw [Nat.div_lt_iff_lt_mul (by omega)]; rw [Nat.pow_succ] at h; exact h)
      simp; omega
theorem digN_le {n : Nat} (h : n ≤ 4611686018427387904) : (digN n).length ≤ 19 := digN_len 18 n (Nat.lt_of_le_of_lt h (by decide))
def digT (n : Int) : List Int := if n < 0 then 45 :: digN (-n).toNat else digN n.toNat
theorem p62_nat (n : Nat) (h2 : n ≤ 4611686018427387904) (ih : ∀ m : Nat, m < n → phi C0 (lim C0) 62 [(.pv false (.sc (.int .i64 ((m : Nat)))))] [] = some (.ref 16 0 (digN m).length, [(16, .row .own 5 1 (nums .u8 (digN m)))])) : phi C0 (lim C0) 62 [(.pv false (.sc (.int .i64 ((n : Nat)))))] [] = some (.ref 16 0 (digN n).length, [(16, .row .own 5 1 (nums .u8 (digN n)))]) := call0 Tryz.func62 (by kernel_rfl) ((show ∀ fn : Func, fn.results = #[.tmp 2] → lim C0 62 fn [.c (code Tryz.f62)] ⟨_, _⟩ = _ from fun fn hr => by
  have h0 : ¬ (n : Int) < 0 := by omega
  simp [code, Tryz.f62, hr, h0]
  (first | refine ifL_cases (fun h => ?_) (fun h => ?_) | refine gI_cases' (fun h => ?_) (fun h => ?_) | refine gI_cases (fun h => ?_) (fun h => ?_) | refine dI_cases' (fun h => ?_) (fun h => ?_) | refine dI_cases (fun h => ?_) (fun h => ?_)) <;> first | replace h := of_decide_eq_true h | replace h := of_decide_eq_false h | skip
  · have e : digN n = [48 + (n : Int)] := by rw [digN, if_pos (by omega)]
    rw [e]
    have w1 : IntKind.i64.wrap (48 + (n : Int)) = 48 + n := wrap_id' (by omega)
    have w2 : IntKind.u8.wrap (48 + (n : Int)) = 48 + n := wrap_u8 (by omega)
    simp [hr, w1, w2]
  · have e : digN n = digN (n / 10) ++ [48 + ((n % 10 : Nat) : Int)] := by rw [digN, if_neg (by omega)]
    rw [e]
    have q1 := bin_quo (.int .i64) .i64 (n : Int) 10 (by decide)
    have q2 := bin_rem (.int .i64) .i64 (n : Int) 10 (by decide)
    have e1 : (n : Int).tdiv 10 = ((n / 10 : Nat) : Int) := rfl
    have e2 : (n : Int).tmod 10 = ((n % 10 : Nat) : Int) := rfl
    rw [e1, wrap_id' (by omega)] at q1
    rw [e2] at q2
    have q3 := ih (n / 10) (by omega)
    have w1 : IntKind.i64.wrap (48 + ((n % 10 : Nat) : Int)) = 48 + ((n % 10 : Nat) : Int) := wrap_id' (by omega)
    have w2 : IntKind.u8.wrap (48 + ((n % 10 : Nat) : Int)) = 48 + ((n % 10 : Nat) : Int) := wrap_u8 (by omega)
    have hlen := digN_le (n := n / 10) (by omega)
    generalize digN (n / 10) = d at *
    generalize n / 10 = a at *
    generalize n % 10 = c at *
    (simp [hr, q1, q2, q3, w1, w2]); repeat (simp (disch := omega) only [room_ok, max_ok', spare_no, le_ok', and_self, true_and, and_true, if_true, if_false, ite_true, ite_false]; try simp [hr, q1, q2, q3, w1, w2])
  ) Tryz.f62 Tryz.results62)
theorem pDigN : ∀ n : Nat, n ≤ 4611686018427387904 → phi C0 (lim C0) 62 [(.pv false (.sc (.int .i64 ((n : Nat)))))] [] = some (.ref 16 0 (digN n).length, [(16, .row .own 5 1 (nums .u8 (digN n)))]) := by
  intro n
  induction n using Nat.strongRecOn with
  | ind n ih => exact fun h => p62_nat n h fun m hm => ih m hm (by omega)
theorem p62_neg (n : Int) (h0 : n < 0) (h1 : -4611686018427387904 ≤ n) : phi C0 (lim C0) 62 [(.pv false (.sc (.int .i64 n)))] [] = some (.ref 16 0 (45 :: digN (-n).toNat).length, [(16, .row .own 5 1 (nums .u8 (45 :: digN (-n).toNat)))]) := call0 Tryz.func62 (by kernel_rfl) ((show ∀ fn : Func, fn.results = #[.tmp 2] → lim C0 62 fn [.c (code Tryz.f62)] ⟨_, _⟩ = _ from fun fn hr => by
  obtain ⟨m, rfl⟩ : ∃ m : Nat, n = -(m : Int) := ⟨(-n).toNat, by omega⟩
  have q := pDigN m (by omega)
  have hlen := digN_le (n := m) (by omega)
  have e : (-(-(m : Int))).toNat = m := by omega
  have e2 : Op.unary .neg (.int .i64 (-(m : Int))) = Sem.pure (.int .i64 (IntKind.i64.wrap (m : Int))) := by
    show Sem.pure _ = _
    simp
  have w : IntKind.i64.wrap (m : Int) = m := wrap_id' (by omega)
  rw [w] at e2
  rw [e]
  generalize digN m = d at *
  have hm : 0 < m := by omega
  (simp [code, Tryz.f62, hr, hm, e2, q, Nat.add_comm 1 d.length, rws_cons]); repeat (simp (disch := omega) only [room_ok, max_ok', spare_no, le_ok', and_self, true_and, and_true, if_true, if_false, ite_true, ite_false]; try simp [code, Tryz.f62, hr, hm, e2, q, Nat.add_comm 1 d.length, rws_cons])
  ) Tryz.f62 Tryz.results62)
theorem pDig (n : Int) (h0 : -4611686018427387904 ≤ n) (h1 : n ≤ 4611686018427387904) : phi C0 (lim C0) 62 [(.pv false (.sc (.int .i64 n)))] [] = some (.ref 16 0 (digT n).length, [(16, .row .own 5 1 (nums .u8 (digT n)))]) := by
  unfold digT
  by_cases h : n < 0
  · rw [if_pos h]; exact p62_neg n h h0
  · rw [if_neg h]
    have := pDigN n.toNat (by omega)
    rwa [show ((n.toNat : Nat) : Int) = n by omega] at this
def quoB : List Int → List Int
  | [] => []
  | c :: l => if c = 34 ∨ c = 92 then 92 :: c :: quoB l else c :: quoB l
def quoT (l : List Int) : List Int := 34 :: quoB l ++ [34]
@[simp] theorem quoB_nil : quoB [] = [] := rfl
theorem quoB_len (l : List Int) : (quoB l).length ≤ 2 * l.length := by
  induction l with
  | nil => simp [quoB]
  | cons c l ih => simp only [quoB]; split <;> simp <;> omega
theorem quoB_app (l m : List Int) : quoB (l ++ m) = quoB l ++ quoB m := by
  induction l with
  | nil => rfl
  | cons c l ih => simp only [List.cons_append, quoB, ih]; split <;> simp
theorem p103 (b : Bool) (l : List Int) (hl : l.length ≤ 1048576) : phi C0 (lim C0) 103 [.pv b (.sl (nums .u8 l))] [] = some (.ref 16 0 (quoT l).length, [(16, .row .own 5 1 (nums .u8 (quoT l)))]) := call0 Tryz.func103 (by kernel_rfl) ((show ∀ fn : Func, fn.results = #[.tmp 2] → globs fn = [0, 4, 9, 23, 3, 2] → lim C0 103 fn [.c (code Tryz.f103)] ⟨_, _⟩ = _ from fun fn hr hg => by
  simp [code, Tryz.f103, hr, hg]
  refine (loop_to (s0 := ?s1) (fun i => l.length - i) (fun i => [(3, .ref 16 0 (34 :: quoB (l.take i)).length), (4, (.pv false (.sc (.int .i64 ((i : Nat))))))]) (fun i => [(16, .row .own 5 1 (nums .u8 (34 :: quoB (l.take i))))]) (fun i K => K [(3, .ref 16 0 (34 :: quoB l).length), (4, (.pv false (.sc (.int .i64 l.length))))] [(16, .row .own 5 1 (nums .u8 (34 :: quoB l)))]) (fun i => i ≤ l.length) 0 ?hc1 ?h01 ?hs1 ?step1).trans ?r1
  case hc1 => simp; rfl
  case h01 => first | (simp; done) | (simp [*]; done) | exact ⟨by simp, ⟨rfl⟩⟩ | grind | (simp; omega)
  case hs1 => first | (simp; done) | (simp [*]; done)
  case r1 =>
    have hlen := quoB_len l
    (simp [hr, quoT]); repeat (simp (disch := omega) only [room_ok, max_ok', spare_no, le_ok', and_self, true_and, and_true, if_true, if_false, ite_true, ite_false]; try simp [hr, quoT])
  intro k i hi ih
  simp [hg]
  (first | refine ifL_cases (fun h => ?_) (fun h => ?_) | refine gI_cases' (fun h => ?_) (fun h => ?_) | refine gI_cases (fun h => ?_) (fun h => ?_) | refine dI_cases' (fun h => ?_) (fun h => ?_) | refine dI_cases (fun h => ?_) (fun h => ?_)) <;> first | replace h := of_decide_eq_true h | replace h := of_decide_eq_false h | skip
  · have hlt := h
    have hlen := quoB_len (l.take i)
    have hlen2 : (l.take i).length ≤ i := by simp [hg]; omega
    have e : quoB (l.take (i + 1)) = quoB (l.take i) ++ quoB [l[i]] := by rw [take_at hlt, quoB_app]
    have e3 : quoB [l[i]] = if l[i] = 34 ∨ l[i] = 92 then [92, l[i]] else [l[i]] := by simp [hg, quoB]
    generalize quoB (l.take i) = acc at *
    have hne : ¬ (34 : Int) = 92 := by decide
    by_cases h34 : l[i] = 34
    · rw [h34] at e3
      simp only [true_or, if_true] at e3
      rw [h34, e3] at e
      (simp [hlt, h34, take_snoc, hr, hg]); repeat (simp (disch := omega) only [room_ok, max_ok', spare_no, le_ok', and_self, true_and, and_true, if_true, if_false, ite_true, ite_false]; try simp [hlt, h34, take_snoc, hr, hg])
      try simp (disch := omega) only [wrap_id']
      refine (ih.out (i + 1) _ ?_ ?_ ?_).trans ?_
      · omega
      · omega
      · simp [hg, e]; try omega
      · simp [hg]
    by_cases h92 : l[i] = 92
    · rw [h92] at e3
      simp only [or_true, if_true] at e3
      rw [h92, e3] at e
      (simp [hlt, h92, take_snoc, hr, hg]); repeat (simp (disch := omega) only [room_ok, max_ok', spare_no, le_ok', and_self, true_and, and_true, if_true, if_false, ite_true, ite_false]; try simp [hlt, h92, take_snoc, hr, hg])
      try simp (disch := omega) only [wrap_id']
      refine (ih.out (i + 1) _ ?_ ?_ ?_).trans ?_
      · omega
      · omega
      · simp [hg, e]; try omega
      · simp [hg]
    · rw [if_neg (by simp [hg, h34, h92])] at e3
      rw [e3] at e
      (simp [hlt, h34, h92, hr, hg]); repeat (simp (disch := omega) only [room_ok, max_ok', spare_no, le_ok', and_self, true_and, and_true, if_true, if_false, ite_true, ite_false]; try simp [hlt, h34, h92, hr, hg])
      try simp (disch := omega) only [wrap_id']
      refine (ih.out (i + 1) _ ?_ ?_ ?_).trans ?_
      · omega
      · omega
      · simp [hg, e]; try omega
      · simp [hg]
  · have e : i = l.length := by omega
    subst e
    simp [hg]
  ) Tryz.f103 Tryz.results103 gl103)
/-! ### values -/
def actT (n : Int) : List Int := if n = 0 then [107, 101, 101, 112] else if n = 1 then [99, 114, 101, 97, 116, 101] else if n = 2 then [117, 112, 100, 97, 116, 101] else if n = 3 then [114, 101, 112, 108, 97, 99, 101] else [100, 101, 108, 101, 116, 101]
def keyT (m : Bool) (k : List (List Int)) : List Int := bif m then (k.headD []) ++ [32, 61, 32] else []
mutual
def sayV : Val → List Int
  | .mk kind n s k l => if kind = 0 then [110, 117, 108, 108] else if kind = 1 then (if n = 0 then [102, 97, 108, 115, 101] else [116, 114, 117, 101]) else
    if kind = 2 then digT n else if kind = 3 then quoT s else if kind = 6 then [63] else
    (if kind = 5 then [123] else [91]) ++ sayL (decide (kind = 5)) true k l ++ (if kind = 5 then [125] else [93])
def sayL : Bool → Bool → List (List Int) → List Val → List Int
  | _, _, _, [] => []
  | m, f, k, v :: l => (bif f then [] else [44, 32]) ++ keyT m k ++ sayV v ++ sayL m false k.tail l
end
theorem sayV_eq (v : Val) : sayV v = if v.kind = 0 then [110, 117, 108, 108] else if v.kind = 1 then (if v.n = 0 then [102, 97, 108, 115, 101] else [116, 114, 117, 101]) else
    if v.kind = 2 then digT v.n else if v.kind = 3 then quoT v.s else if v.kind = 6 then [63] else
    (if v.kind = 5 then [123] else [91]) ++ sayL (decide (v.kind = 5)) true v.k v.l ++ (if v.kind = 5 then [125] else [93]) := by
  cases v; rw [sayV]; rfl
theorem p60 (n : Int) (h0 : 0 ≤ n) (h : n ≤ 4) : phi C0 (lim C0) 60 [(.pv false (.sc (.int .i64 n)))] [] = some (.pv false (.sc (.string (strOfNums (actT n)))), []) := call0 Tryz.func60 (by kernel_rfl) ((show ∀ fn : Func, fn.results = #[.tmp 2] → lim C0 60 fn [.c (code Tryz.f60)] ⟨_, _⟩ = _ from fun fn hr => by
  obtain ⟨m, rfl⟩ := Int.eq_ofNat_of_zero_le h0
  rcases m with _ | _ | _ | _ | _ | m
  all_goals (try omega)
  all_goals simp [code, Tryz.f60, hr, actT]
  all_goals rfl
  ) Tryz.f60 Tryz.results60)
theorem sayL_take {m : Bool} : ∀ (i : Nat) (f : Bool) (k : List (List Int)) (l : List Val) (h : i < l.length), sayL m f k (l.take (i + 1)) = sayL m f k (l.take i) ++ ((bif f && decide (i = 0) then [] else [44, 32]) ++ (keyT m (k.drop i) ++ sayV l[i]))
  | _, _, _, [], h => by simp at h
  | 0, f, k, v :: l, _ => by cases f <;> simp [sayL]
  | i + 1, f, k, v :: l, h => by
    have := sayL_take (m := m) i false k.tail l (by simpa using h)
    simp only [List.take_succ_cons, sayL, this, List.drop_tail, List.append_assoc]
    simp
theorem sayL_pre {m : Bool} : ∀ (i : Nat) (f : Bool) (k : List (List Int)) (l : List Val), (sayL m f k (l.take i)).length ≤ (sayL m f k l).length
  | 0, f, k, l => by simp [sayL]
  | i + 1, f, k, [] => by simp
  | i + 1, f, k, v :: l => by
    have := sayL_pre (m := m) i false k.tail l
    simp only [List.take_succ_cons, sayL, List.length_append]
    omega
@[simp] theorem sayL_nil (m f : Bool) (k : List (List Int)) : sayL m f k [] = [] := rfl
theorem p61 (v : Val) (h1 : v.kind = 1 → v.n = 0 ∨ v.n = 1) (h2 : v.kind = 2 → -4611686018427387904 ≤ v.n ∧ v.n ≤ 4611686018427387904) (h3 : v.s.length ≤ 1048576) (h5 : v.kind = 5 → v.k.length = v.l.length) (hlen : (sayV v).length ≤ 1099511627776) (hl : v.l.length ≤ 1048576) (ih0 : ∀ u ∈ v.l, phi C0 (lim C0) 61 [.ag [(.pv false (.sc (.int .i64 u.kind))), (.pv false (.sc (.int .i64 u.n))), .pv false (.sl (nums .u8 u.s)), .pv false (.sl (rws byP u.k)), .pv false (.sl (rws vP u.l))]] [] = some (.ref 16 0 (sayV u).length, [(16, .row .own 5 1 (nums .u8 (sayV u)))])) : phi C0 (lim C0) 61 [.ag [(.pv false (.sc (.int .i64 v.kind))), (.pv false (.sc (.int .i64 v.n))), .pv false (.sl (nums .u8 v.s)), .pv false (.sl (rws byP v.k)), .pv false (.sl (rws vP v.l))]] [] = some (.ref 16 0 (sayV v).length, [(16, .row .own 5 1 (nums .u8 (sayV v)))]) := call0 Tryz.func61 (by kernel_rfl) ((show ∀ fn : Func, fn.results = #[.tmp 2] → globs fn = [0, 1, 8, 9, 13, 21, 26, 31, 37, 3, 6, 44, 48, 5, 53, 4, 2] → lim C0 61 fn [.c (code Tryz.f61)] ⟨_, _⟩ = _ from fun fn hr hg => by
  rw [sayV_eq] at hlen ⊢
  simp [code, Tryz.f61, hr, hg]
  by_cases k0 : v.kind = 0
  · simp [hg, k0, hr, hg]
    rfl
  by_cases k1 : v.kind = 1
  · rcases h1 k1 with hn | hn
    · simp [hg, k1, hn, hr, hg]
      exact ⟨rfl, rfl⟩
    · simp [hg, k1, hn, hr, hg]
      exact ⟨rfl, rfl⟩
  by_cases k2 : v.kind = 2
  · have q := pDig v.n (h2 k2).1 (h2 k2).2
    simp [hg, k2, q, hr, hg]
  by_cases k3 : v.kind = 3
  · have q := fun b => p103 b v.s h3
    simp [hg, k3, q, hr, hg]
  by_cases k6 : v.kind = 6
  · simp [hg, k6, hr, hg]
  simp only [k0, k1, k2, k3, k6, if_false] at hlen ⊢
  by_cases k5 : v.kind = 5
  · simp [hg, k5, hr, hg]
    simp only [k5, if_true, decide_true] at hlen
    have h5 := h5 k5
    refine (loop_to (s0 := ?s2) (fun i => v.l.length - i) (fun i => [(5, .ref 18 0 ((sayL true true v.k (v.l.take i)).length + 1)), (6, (.pv false (.sc (.int .i64 ((i : Nat))))))]) (fun i => [(16, .box [(.pv false (.sc (.int .i64 5))), (.pv false (.sc (.int .i64 v.n))), .pv false (.sl (nums .u8 v.s)), .pv false (.sl (rws byP v.k)), .pv false (.sl (rws vP v.l))]), (18, .row .own 5 1 (nums .u8 (123 :: sayL true true v.k (v.l.take i))))]) (fun i K => K [(5, .ref 18 0 ((sayL true true v.k v.l).length + 1)), (6, (.pv false (.sc (.int .i64 v.l.length))))] [(16, .box [(.pv false (.sc (.int .i64 5))), (.pv false (.sc (.int .i64 v.n))), .pv false (.sl (nums .u8 v.s)), .pv false (.sl (rws byP v.k)), .pv false (.sl (rws vP v.l))]), (18, .row .own 5 1 (nums .u8 (123 :: sayL true true v.k v.l)))]) (fun i => i ≤ v.l.length) 0 ?hc2 ?h02 ?hs2 ?step2).trans ?r2
    case hc2 => simp; rfl
    case h02 => first | (simp; done) | (simp [*]; done) | exact ⟨by simp, ⟨rfl⟩⟩ | grind | (simp; omega)
    case hs2 => first | (simp; done) | (simp [*]; done)
    case r2 =>
      simp at hlen
      (simp [hr, hg]); repeat (simp (disch := omega) only [room_ok, max_ok', spare_no, le_ok', and_self, true_and, and_true, if_true, if_false, ite_true, ite_false]; try simp [hr, hg])
    intro k i hi ih
    simp [hg]
    (first | refine ifL_cases (fun h => ?_) (fun h => ?_) | refine gI_cases' (fun h => ?_) (fun h => ?_) | refine gI_cases (fun h => ?_) (fun h => ?_) | refine dI_cases' (fun h => ?_) (fun h => ?_) | refine dI_cases (fun h => ?_) (fun h => ?_)) <;> first | replace h := of_decide_eq_true h | replace h := of_decide_eq_false h | skip
    · have hlt := h
      have q := ih0 v.l[i] (List.getElem_mem hlt)
      have e := sayL_take (m := true) i true v.k v.l hlt
      have e2 := sayL_pre (m := true) (i + 1) true v.k v.l
      have e3 := sayL_pre (m := true) i true v.k v.l
      simp at hlen
      rw [e] at e2
      simp only [List.length_append] at e2
      have hlk : i < v.k.length := by omega
      have ek : keyT true (v.k.drop i) = v.k[i] ++ [32, 61, 32] := by rw [drop_at hlk]; rfl
      rw [ek] at e e2
      try simp only [List.length_append] at e2
      generalize hA : sayL true true v.k (v.l.take i) = acc at *
      generalize hU : sayV v.l[i] = u at *
      by_cases hi0 : i = 0
      · have hi1 : ¬ 0 < i := by omega
        have hd : decide (i = 0) = true := by simp [hg, hi0]
        rw [hd] at e
        simp at e
        (simp [hlt, q, hi1, hlk, byP, hr, hg]); repeat (simp (disch := omega) only [room_ok, max_ok', spare_no, le_ok', and_self, true_and, and_true, if_true, if_false, ite_true, ite_false]; try simp [hlt, q, hi1, hlk, byP, hr, hg])
        (repeat rw [List.take_of_length_le (by first | (simp; done) | (simp; omega))])
        try simp (disch := omega) only [wrap_id']
        refine (ih.out (i + 1) _ ?_ ?_ ?_).trans ?_
        · omega
        · omega
        · simp [hg, e, rws]; try omega
        · simp [hg]
      · have hi1 : 0 < i := by omega
        have hd : decide (i = 0) = false := by simp [hg, hi0]
        rw [hd] at e
        simp at e
        (simp [hlt, q, hi1, hlk, byP, hr, hg]); repeat (simp (disch := omega) only [room_ok, max_ok', spare_no, le_ok', and_self, true_and, and_true, if_true, if_false, ite_true, ite_false]; try simp [hlt, q, hi1, hlk, byP, hr, hg])
        (repeat rw [List.take_of_length_le (by first | (simp; done) | (simp; omega))])
        try simp (disch := omega) only [wrap_id']
        refine (ih.out (i + 1) _ ?_ ?_ ?_).trans ?_
        · omega
        · omega
        · simp [hg, e, rws]; try omega
        · simp [hg]
    · have e : i = v.l.length := by omega
      subst e
      simp [hg]
  · simp [hg, k0, k1, k2, k3, k5, k6, hr, hg]
    simp only [k5, if_false, decide_false] at hlen
    refine (loop_to (s0 := ?s3) (fun i => v.l.length - i) (fun i => [(5, .ref 18 0 ((sayL false true v.k (v.l.take i)).length + 1)), (6, (.pv false (.sc (.int .i64 ((i : Nat))))))]) (fun i => [(16, .box [(.pv false (.sc (.int .i64 v.kind))), (.pv false (.sc (.int .i64 v.n))), .pv false (.sl (nums .u8 v.s)), .pv false (.sl (rws byP v.k)), .pv false (.sl (rws vP v.l))]), (18, .row .own 5 1 (nums .u8 (91 :: sayL false true v.k (v.l.take i))))]) (fun i K => K [(5, .ref 18 0 ((sayL false true v.k v.l).length + 1)), (6, (.pv false (.sc (.int .i64 v.l.length))))] [(16, .box [(.pv false (.sc (.int .i64 v.kind))), (.pv false (.sc (.int .i64 v.n))), .pv false (.sl (nums .u8 v.s)), .pv false (.sl (rws byP v.k)), .pv false (.sl (rws vP v.l))]), (18, .row .own 5 1 (nums .u8 (91 :: sayL false true v.k v.l)))]) (fun i => i ≤ v.l.length) 0 ?hc3 ?h03 ?hs3 ?step3).trans ?r3
    case hc3 => simp; rfl
    case h03 => first | (simp; done) | (simp [*]; done) | exact ⟨by simp, ⟨rfl⟩⟩ | grind | (simp; omega)
    case hs3 => first | (simp; done) | (simp [*]; done)
    case r3 =>
      simp at hlen
      (simp [hr, hg]); repeat (simp (disch := omega) only [room_ok, max_ok', spare_no, le_ok', and_self, true_and, and_true, if_true, if_false, ite_true, ite_false]; try simp [hr, hg])
    intro k i hi ih
    simp [hg]
    (first | refine ifL_cases (fun h => ?_) (fun h => ?_) | refine gI_cases' (fun h => ?_) (fun h => ?_) | refine gI_cases (fun h => ?_) (fun h => ?_) | refine dI_cases' (fun h => ?_) (fun h => ?_) | refine dI_cases (fun h => ?_) (fun h => ?_)) <;> first | replace h := of_decide_eq_true h | replace h := of_decide_eq_false h | skip
    · have hlt := h
      have q := ih0 v.l[i] (List.getElem_mem hlt)
      have e := sayL_take (m := false) i true v.k v.l hlt
      have e2 := sayL_pre (m := false) (i + 1) true v.k v.l
      have e3 := sayL_pre (m := false) i true v.k v.l
      simp at hlen
      rw [e] at e2
      simp only [List.length_append] at e2
      have ek : keyT false (v.k.drop i) = [] := rfl
      rw [ek] at e e2
      try simp only [List.length_append] at e2
      generalize hA : sayL false true v.k (v.l.take i) = acc at *
      generalize hU : sayV v.l[i] = u at *
      by_cases hi0 : i = 0
      · have hi1 : ¬ 0 < i := by omega
        have hd : decide (i = 0) = true := by simp [hg, hi0]
        rw [hd] at e
        simp at e
        (simp [hlt, q, hi1, k5, hr, hg]); repeat (simp (disch := omega) only [room_ok, max_ok', spare_no, le_ok', and_self, true_and, and_true, if_true, if_false, ite_true, ite_false]; try simp [hlt, q, hi1, k5, hr, hg])
        (repeat rw [List.take_of_length_le (by first | (simp; done) | (simp; omega))])
        try simp (disch := omega) only [wrap_id']
        refine (ih.out (i + 1) _ ?_ ?_ ?_).trans ?_
        · omega
        · omega
        · simp [hg, e, rws]; try omega
        · simp [hg]
      · have hi1 : 0 < i := by omega
        have hd : decide (i = 0) = false := by simp [hg, hi0]
        rw [hd] at e
        simp at e
        (simp [hlt, q, hi1, k5, hr, hg]); repeat (simp (disch := omega) only [room_ok, max_ok', spare_no, le_ok', and_self, true_and, and_true, if_true, if_false, ite_true, ite_false]; try simp [hlt, q, hi1, k5, hr, hg])
        (repeat rw [List.take_of_length_le (by first | (simp; done) | (simp; omega))])
        try simp (disch := omega) only [wrap_id']
        refine (ih.out (i + 1) _ ?_ ?_ ?_).trans ?_
        · omega
        · omega
        · simp [hg, e, rws]; try omega
        · simp [hg]
    · have e : i = v.l.length := by omega
      subst e
      simp [hg]
  ) Tryz.f61 Tryz.results61 gl61)
end Go.Proofs.YtgbfmdihmnpcdaaGreatDoor
