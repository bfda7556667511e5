/- Marks on trees, and what is held of them. -/
import Derived.Test.YtgbfmdihmnpcdaaGreatDoorU2
import Derived.Test.YtgbfmdihmnpcdaaGreatDoorO1
namespace Go.Proofs.YtgbfmdihmnpcdaaGreatDoor
open Go Go.Pm Go.Proofs
set_option linter.unusedVariables false
set_option linter.unusedSimpArgs false
set_option maxRecDepth 100000
set_option maxHeartbeats 4000000
section
variable {rows a b rs : List (List PV)} {π : List (Nat × Nat)}
theorem tset_step {i j : Nat} {r : List PV} {rs0 : List (List PV)} (h1 : rows[i]? = some r) (h2 : r[j]? = some (.sl rs0)) : tset rows ((i, j) :: π) a = rows.set i (r.set j (.sl (tset rs0 π a))) := by simp only [tset, h1, h2]
theorem tat_tset_app (h : tat rows π = some rs) (π' : List (Nat × Nat)) : tat (tset rows π a) (π ++ π') = tat a π' := by
  induction π generalizing rows with
  | nil => rfl
  | cons x π ih =>
    obtain ⟨i, j⟩ := x
    obtain ⟨r, rs0, h1, h2, h3⟩ := tat_cons.1 h
    have hi : i < rows.length := (List.getElem?_eq_some_iff.1 h1).1
    have hj : j < r.length := (List.getElem?_eq_some_iff.1 h2).1
    rw [tset_step h1 h2, List.cons_append]
    simp only [tat, List.getElem?_set_self hi, List.getElem?_set_self hj]
    exact ih h3
theorem tat_tset_self (h : tat rows π = some rs) : tat (tset rows π a) π = some a := by
  have := tat_tset_app (a := a) h []
  simpa using this
theorem tset_tset_app (h : tat rows π = some rs) (π' : List (Nat × Nat)) : tset (tset rows π a) (π ++ π') b = tset rows π (tset a π' b) := by
  induction π generalizing rows with
  | nil => rfl
  | cons x π ih =>
    obtain ⟨i, j⟩ := x
    obtain ⟨r, rs0, h1, h2, h3⟩ := tat_cons.1 h
    have hi : i < rows.length := (List.getElem?_eq_some_iff.1 h1).1
    have hj : j < r.length := (List.getElem?_eq_some_iff.1 h2).1
    rw [tset_step h1 h2, tset_step h1 h2, List.cons_append, tset_step (List.getElem?_set_self hi) (List.getElem?_set_self hj), ih h3, List.set_set, List.set_set]
theorem tset_tset (h : tat rows π = some rs) : tset (tset rows π a) π b = tset rows π b := by
  have := tset_tset_app (a := a) (b := b) h []
  simpa [tset] using this
theorem tset_self (h : tat rows π = some rs) : tset rows π rs = rows := by
  induction π generalizing rows with
  | nil => simp only [tat] at h; cases h; rfl
  | cons x π ih =>
    obtain ⟨i, j⟩ := x
    obtain ⟨r, rs0, h1, h2, h3⟩ := tat_cons.1 h
    have hi : i < rows.length := (List.getElem?_eq_some_iff.1 h1).1
    have hj : j < r.length := (List.getElem?_eq_some_iff.1 h2).1
    rw [tset_step h1 h2, ih h3]
    have e2 : r.set j (.sl rs0) = r := by
      have := (List.getElem?_eq_some_iff.1 h2).2
      rw [← this]; exact List.set_getElem_self _
    have e1 : rows[i] = r := (List.getElem?_eq_some_iff.1 h1).2
    rw [e2, ← e1]; exact List.set_getElem_self _
end
theorem p13_t (rows : List (List PV)) (π : List (Nat × Nat)) (l : List Int) (k : Int) (ht : tat rows π = some (nums .u8 l)) (h0 : 0 ≤ k) (h1 : k + l.length ≤ 4611686018427387904) : phi C0 (lim C0) 13 [.nr 0 π 0 l.length, (.pv false (.sc (.int .i64 k)))] [(0, .tree .io rows)] = some ((.pv false (.sc (.int .i64 (k + l.length)))), [(0, .tree .io (tset rows π (nums .u8 (mkL l.length k))))]) := call0 Tryz.func13 (by kernel_rfl) ((show ∀ fn : Func, fn.results = #[.tmp 4] → globs fn = [0, 5, 9, 1, 4] → lim C0 13 fn [.c (code Tryz.f13)] ⟨_, _⟩ = _ from fun fn hr hg => by
  have t0 := tset_self ht
  have t1 := fun a => tat_tset_self (a := a) ht
  have t2 := fun a b => tset_tset (a := a) (b := b) ht
  simp [code, Tryz.f13, hr, hg]
  refine (loop_to (s0 := ?s1) (fun i => l.length - i) (fun i => [(5, (.pv false (.sc (.int .i64 ((i : Nat)))))), (1, (.pv false (.sc (.int .i64 (k + (i : Nat))))))]) (fun i => [(0, .tree .io (tset rows π (nums .u8 (mkL i k ++ l.drop i))))]) (fun i K => K [(5, (.pv false (.sc (.int .i64 l.length)))), (1, (.pv false (.sc (.int .i64 (k + l.length)))))] [(0, .tree .io (tset rows π (nums .u8 (mkL l.length k))))]) (fun i => i ≤ l.length) 0 ?hc1 ?h01 ?hs1 ?step1).trans ?r1
  case hc1 => simp; rfl
  case h01 => first | (simp; done) | (simp [*]; done) | exact ⟨by simp, ⟨rfl⟩⟩ | grind | (simp; omega)
  case hs1 => first | (simp; done) | (simp [*]; done)
  case r1 => simp [hg, hr]
  intro n i hi ih
  simp [hg]
  (first | refine ifL_cases (fun h => ?_) (fun h => ?_) | refine gI_cases' (fun h => ?_) (fun h => ?_) | refine gI_cases (fun h => ?_) (fun h => ?_) | refine dI_cases' (fun h => ?_) (fun h => ?_) | refine dI_cases (fun h => ?_) (fun h => ?_)) <;> first | replace h := of_decide_eq_true h | replace h := of_decide_eq_false h | skip
  · have hlt := h
    have e1 : (nums .u8 (mkL i k ++ l.drop i))[i]? = some [.sc (.int .u8 l[i])] := by
      have e : (mkL i k ++ l.drop i)[i]? = some l[i] := by rw [List.getElem?_append_right (by simp [hg]), mkL_len, Nat.sub_self, drop_at hlt]; rfl
      show (List.map _ _)[i]? = _
      rw [List.getElem?_map, e]
      rfl
    have e2 : (nums .u8 (mkL i k ++ l.drop i)).set i [.sc (.int .u8 (IntKind.u8.wrap (k + (i : Nat))))] = nums .u8 (mkL (i + 1) k ++ l.drop (i + 1)) := by
      rw [← mkL_set l k i hlt]
      exact rws_set _ _ _ _
    simp [hg, hlt, e1, e2, t1, t2, hr, hg]
    try simp (disch := omega) only [wrap_id']
    refine (ih.out (i + 1) _ ?_ ?_ ?_).trans ?_
    · omega
    · omega
    · simp [hg]; omega
    · rfl
  · have e : i = l.length := by omega
    subst e
    simp [hg]
  ) Tryz.f13 Tryz.results13 gl13)
/-- The marks on texts. -/
def mBB : List (List Int) → Int → List (List Int)
  | [], _ => []
  | b :: l, k => mkL b.length k :: mBB l (k + b.length)
@[simp] theorem mBB_nil (k : Int) : mBB [] k = [] := rfl
@[simp] theorem mBB_len : ∀ (l : List (List Int)) (k : Int), (mBB l k).length = l.length
  | [], _ => rfl
  | b :: l, k => by simp [mBB, mBB_len l]
theorem mBB_app : ∀ (l m : List (List Int)) (k : Int), mBB (l ++ m) k = mBB l k ++ mBB m (k + mkBs l)
  | [], m, k => by simp [mBB]
  | b :: l, m, k => by
    rw [List.cons_append, mBB, mBB, mBB_app l m, mkBs]
    simp [Int.add_assoc]
theorem mBB_set (l : List (List Int)) (k : Int) (i : Nat) (h : i < l.length) : (mBB (l.take i) k ++ l.drop i).set i (mkL l[i].length (k + mkBs (l.take i))) = mBB (l.take (i + 1)) k ++ l.drop (i + 1) := by
  rw [List.set_append_right _ _ (by simp; omega), List.take_succ_eq_append_getElem h, mBB_app, mBB_len, List.length_take, Nat.min_eq_left (by omega), Nat.sub_self, drop_at h, List.append_assoc]
  rfl
theorem p75_t (rows : List (List PV)) (π : List (Nat × Nat)) (l : List (List Int)) (k : Int) (ht : tat rows π = some (rws byP l)) (h0 : 0 ≤ k) (h1 : k + mkBs l ≤ 4611686018427387904) (h2 : l.length ≤ 4611686018427387904) : phi C0 (lim C0) 75 [.nr 0 π 0 l.length, (.pv false (.sc (.int .i64 k)))] [(0, .tree .io rows)] = some ((.pv false (.sc (.int .i64 (k + mkBs l)))), [(0, .tree .io (tset rows π (rws byP (mBB l k))))]) := call0 Tryz.func75 (by kernel_rfl) ((show ∀ fn : Func, fn.results = #[.tmp 4] → globs fn = [0, 5, 9, 1, 4] → lim C0 75 fn [.c (code Tryz.f75)] ⟨_, _⟩ = _ from fun fn hr hg => by
  have t0 := tset_self ht
  have t1 := fun a => tat_tset_self (a := a) ht
  have t3 := fun a x => tat_tset_app (a := a) ht [x]
  have t4 := fun a b x => tset_tset_app (a := a) (b := b) ht [x]
  simp [code, Tryz.f75, hr, hg]
  refine (loop_to (s0 := ?s2) (fun i => l.length - i) (fun i => [(5, (.pv false (.sc (.int .i64 ((i : Nat)))))), (1, (.pv false (.sc (.int .i64 (k + (mkBs (l.take i) : Nat))))))]) (fun i => [(0, .tree .io (tset rows π (rws byP (mBB (l.take i) k ++ l.drop i))))]) (fun i K => K [(5, (.pv false (.sc (.int .i64 l.length)))), (1, (.pv false (.sc (.int .i64 (k + mkBs l)))))] [(0, .tree .io (tset rows π (rws byP (mBB l k))))]) (fun i => i ≤ l.length) 0 ?hc2 ?h02 ?hs2 ?step2).trans ?r2
  case hc2 => simp; rfl
  case h02 => first | (simp; done) | (simp [*]; done) | exact ⟨by simp, ⟨rfl⟩⟩ | grind | (simp; omega)
  case hs2 => first | (simp; done) | (simp [*]; done)
  case r2 => simp [hg, hr]
  intro n i hi ih
  simp [hg]
  (first | refine ifL_cases (fun h => ?_) (fun h => ?_) | refine gI_cases' (fun h => ?_) (fun h => ?_) | refine gI_cases (fun h => ?_) (fun h => ?_) | refine dI_cases' (fun h => ?_) (fun h => ?_) | refine dI_cases (fun h => ?_) (fun h => ?_)) <;> first | replace h := of_decide_eq_true h | replace h := of_decide_eq_false h | skip
  · have hlt := h
    have e1 := mkBs_at hlt
    have e2 := mkBs_le l (i + 1)
    have e3 : (rws byP (mBB (l.take i) k ++ l.drop i))[i]? = some [.sl (nums .u8 l[i])] := by
      have e : (mBB (l.take i) k ++ l.drop i)[i]? = some l[i] := by
        have e0 : (mBB (l.take i) k).length = i := by simp [hg]; omega
        rw [List.getElem?_append_right (by omega), e0, Nat.sub_self, drop_at hlt]; rfl
      show (List.map _ _)[i]? = _
      rw [List.getElem?_map, e]
      rfl
    have e4 : (rws byP (mBB (l.take i) k ++ l.drop i)).set i [.sl (nums .u8 (mkL l[i].length (k + mkBs (l.take i))))] = rws byP (mBB (l.take (i + 1)) k ++ l.drop (i + 1)) := by
      rw [← mBB_set l k i hlt]
      exact rws_set _ _ _ _
    generalize rws byP (mBB (l.take i) k ++ l.drop i) = Y at e3 e4
    have t5 := t3 Y (i, 0)
    have q := p13_t (tset rows π Y) (π ++ [(i, 0)]) l[i] (k + (mkBs (l.take i) : Nat)) (by rw [t5]; simp [hg, e3]) (by omega) (by omega)
    rw [t4] at q
    simp only [tset, e3] at q
    simp [hg, e4] at q
    simp [hg, hlt, t1, e3, q, hr, hg]
    try simp (disch := omega) only [wrap_id']
    refine (ih.out (i + 1) _ ?_ ?_ ?_).trans ?_
    · omega
    · omega
    · simp [hg, e1]; omega
    · rfl
  · have e : i = l.length := by omega
    subst e
    simp [hg]
  ) Tryz.f75 Tryz.results75 gl75)
theorem at_cell {rows rs Y : List (List PV)} {π : List (Nat × Nat)} {i j : Nat} {r : List PV} {x : List (List PV)} (ht : tat rows π = some rs) (hi : i < Y.length) (h : r[j]? = some (.sl x)) :
    tat (tset rows π (Y.set i r)) (π ++ [(i, j)]) = some x ∧ ∀ new, tset (tset rows π (Y.set i r)) (π ++ [(i, j)]) new = tset rows π (Y.set i (r.set j (.sl new))) := by
  have e := List.getElem?_set_self (a := r) hi
  refine ⟨?_, fun new => ?_⟩
  · rw [tat_tset_app ht]; simp only [tat, e, h]
  · rw [tset_tset_app ht, tset_step e h, List.set_set]; rfl
mutual
/-- The marks on values that are elements. -/
def mV : Val → Int → Val
  | .mk _ _ s kk l, k => .mk k (k + 1) (mkL s.length (k + 1 + 1)) (mBB kk (k + 1 + 1 + s.length)) (mVs l (k + 1 + 1 + s.length + mkBs kk))
def mVs : List Val → Int → List Val
  | [], _ => []
  | v :: l, k => mV v k :: mVs l (k + mkV v)
end
@[simp] theorem mVs_nil (k : Int) : mVs [] k = [] := by rw [mVs]
theorem mV_eq (v : Val) (k : Int) : mV v k = .mk k (k + 1) (mkL v.s.length (k + 1 + 1)) (mBB v.k (k + 1 + 1 + v.s.length)) (mVs v.l (k + 1 + 1 + v.s.length + mkBs v.k)) := by
  cases v; rw [mV]; rfl
theorem vP_mV (v : Val) (k : Int) : vP (mV v k) = [.sc (.int .i64 k), .sc (.int .i64 (k + 1)), .sl (nums .u8 (mkL v.s.length (k + 1 + 1))), .sl (rws byP (mBB v.k (k + 1 + 1 + v.s.length))), .sl (rws vP (mVs v.l (k + 1 + 1 + v.s.length + mkBs v.k)))] := by
  rw [mV_eq, vP_eq]; rfl
@[simp] theorem mVs_len : ∀ (l : List Val) (k : Int), (mVs l k).length = l.length
  | [], _ => by simp
  | v :: l, k => by rw [mVs]; simp [mVs_len l]
theorem mVs_app : ∀ (l m : List Val) (k : Int), mVs (l ++ m) k = mVs l k ++ mVs m (k + mkVs l)
  | [], m, k => by simp
  | v :: l, m, k => by
    rw [List.cons_append, mVs, mVs, mVs_app l m, mkVs]
    simp [Int.add_assoc]
theorem mVs_set (l : List Val) (k : Int) (i : Nat) (h : i < l.length) : (mVs (l.take i) k ++ l.drop i).set i (mV l[i] (k + mkVs (l.take i))) = mVs (l.take (i + 1)) k ++ l.drop (i + 1) := by
  rw [List.set_append_right _ _ (by simp; omega), List.take_succ_eq_append_getElem h, mVs_app, mVs_len, List.length_take, Nat.min_eq_left (by omega), Nat.sub_self, drop_at h, List.append_assoc, mVs, mVs]
  rfl
theorem rws_here {α : Type} (enc : α → List PV) {a l : List α} {i : Nat} (ha : a.length = i) (h : i < l.length) : (rws enc (a ++ l.drop i))[i]? = some (enc l[i]) := by
  show (List.map _ _)[i]? = _
  rw [List.getElem?_map, List.getElem?_append_right (by omega), ha, Nat.sub_self, drop_at h]
  rfl
theorem p76_t (rows : List (List PV)) (π : List (Nat × Nat)) (l : List Val) (k : Int) (ht : tat rows π = some (rws vP l)) (h0 : 0 ≤ k) (h1 : k + mkVs l ≤ 4611686018427387904) (h2 : ∀ u ∈ l, u.k.length ≤ 4611686018427387904) (ih0 : ∀ u ∈ l, ∀ (rows : List (List PV)) (π : List (Nat × Nat)) (k : Int), tat rows π = some (rws vP u.l) → 0 ≤ k → k + mkVs u.l ≤ 4611686018427387904 → phi C0 (lim C0) 76 [.nr 0 π 0 u.l.length, (.pv false (.sc (.int .i64 k)))] [(0, .tree .io rows)] = some ((.pv false (.sc (.int .i64 (k + mkVs u.l)))), [(0, .tree .io (tset rows π (rws vP (mVs u.l k))))])) : phi C0 (lim C0) 76 [.nr 0 π 0 l.length, (.pv false (.sc (.int .i64 k)))] [(0, .tree .io rows)] = some ((.pv false (.sc (.int .i64 (k + mkVs l)))), [(0, .tree .io (tset rows π (rws vP (mVs l k))))]) := call0 Tryz.func76 (by kernel_rfl) ((show ∀ fn : Func, fn.results = #[.tmp 4] → globs fn = [0, 5, 9, 1, 4] → lim C0 76 fn [.c (code Tryz.f76)] ⟨_, _⟩ = _ from fun fn hr hg => by
  have t0 := tset_self ht
  have t1 := fun a => tat_tset_self (a := a) ht
  have t2 := fun a b => tset_tset (a := a) (b := b) ht
  have hl := mkVs_len l
  simp [code, Tryz.f76, hr, hg]
  refine (loop_to (s0 := ?s3) (fun i => l.length - i) (fun i => [(5, (.pv false (.sc (.int .i64 ((i : Nat)))))), (1, (.pv false (.sc (.int .i64 (k + (mkVs (l.take i) : Nat))))))]) (fun i => [(0, .tree .io (tset rows π (rws vP (mVs (l.take i) k ++ l.drop i))))]) (fun i K => K [(5, (.pv false (.sc (.int .i64 l.length)))), (1, (.pv false (.sc (.int .i64 (k + mkVs l)))))] [(0, .tree .io (tset rows π (rws vP (mVs l k))))]) (fun i => i ≤ l.length) 0 ?hc3 ?h03 ?hs3 ?step3).trans ?r3
  case hc3 => simp; rfl
  case h03 => first | (simp; done) | (simp [*]; done) | exact ⟨by simp, ⟨rfl⟩⟩ | grind | (simp; omega)
  case hs3 => first | (simp; done) | (simp [*]; done)
  case r3 => simp [hg, hr]
  intro n i hi ih
  simp [hg]
  (first | refine ifL_cases (fun h => ?_) (fun h => ?_) | refine gI_cases' (fun h => ?_) (fun h => ?_) | refine gI_cases (fun h => ?_) (fun h => ?_) | refine dI_cases' (fun h => ?_) (fun h => ?_) | refine dI_cases (fun h => ?_) (fun h => ?_)) <;> first | replace h := of_decide_eq_true h | replace h := of_decide_eq_false h | skip
  · have hlt := h
    have e1 := mkVs_at hlt
    have e2 := mkVs_le l (i + 1)
    have e3 := mkV_eq l[i]
    have e4 : (rws vP (mVs (l.take i) k ++ l.drop i))[i]? = some [.sc (.int .i64 l[i].kind), .sc (.int .i64 l[i].n), .sl (nums .u8 l[i].s), .sl (rws byP l[i].k), .sl (rws vP l[i].l)] := by rw [rws_here vP (by simp [hg]; omega) hlt, vP_eq]
    have e5 : (rws vP (mVs (l.take i) k ++ l.drop i)).set i (vP (mV l[i] (k + mkVs (l.take i)))) = rws vP (mVs (l.take (i + 1)) k ++ l.drop (i + 1)) := by
      rw [← mVs_set l k i hlt]
      exact rws_set _ _ _ _
    rw [vP_mV] at e5
    generalize rws vP (mVs (l.take i) k ++ l.drop i) = Y at e4 e5
    have hY : i < Y.length := (List.getElem?_eq_some_iff.1 e4).1
    have g1 := fun r => List.getElem?_set_self (a := r) hY
    obtain ⟨K, hK⟩ : ∃ K : Int, K = k + (mkVs (l.take i) : Nat) := ⟨_, rfl⟩
    rw [← hK] at e5
    have c1 := at_cell (i := i) (j := 2) (r := [.sc (.int .i64 K), .sc (.int .i64 (K + 1)), .sl (nums .u8 l[i].s), .sl (rws byP l[i].k), .sl (rws vP l[i].l)]) ht hY rfl
    have q1 := p13_t _ _ l[i].s (K + 1 + 1) c1.1 (by omega) (by omega)
    rw [c1.2] at q1
    simp only [List.set_cons_succ, List.set_cons_zero] at q1
    have c2 := at_cell (i := i) (j := 3) (r := [.sc (.int .i64 K), .sc (.int .i64 (K + 1)), .sl (nums .u8 (mkL l[i].s.length (K + 1 + 1))), .sl (rws byP l[i].k), .sl (rws vP l[i].l)]) ht hY rfl
    have q2 := p75_t _ _ l[i].k (K + 1 + 1 + l[i].s.length) c2.1 (by omega) (by omega) (h2 _ (List.getElem_mem hlt))
    rw [c2.2] at q2
    simp only [List.set_cons_succ, List.set_cons_zero] at q2
    have c3 := at_cell (i := i) (j := 4) (r := [.sc (.int .i64 K), .sc (.int .i64 (K + 1)), .sl (nums .u8 (mkL l[i].s.length (K + 1 + 1))), .sl (rws byP (mBB l[i].k (K + 1 + 1 + l[i].s.length))), .sl (rws vP l[i].l)]) ht hY rfl
    have q3 := ih0 l[i] (List.getElem_mem hlt) _ _ (K + 1 + 1 + l[i].s.length + mkBs l[i].k) c3.1 (by omega) (by omega)
    rw [c3.2] at q3
    simp only [List.set_cons_succ, List.set_cons_zero, e5] at q3
    rw [← hK]
    simp [hg, hlt, t1, t2, e4, g1, hr, hg]
    try simp (disch := omega) only [wrap_id']
    simp [hg, hlt, t1, t2, g1, q1]
    try simp (disch := omega) only [wrap_id']
    simp [hg, hlt, t1, t2, g1, q2]
    try simp (disch := omega) only [wrap_id']
    simp [hg, hlt, t1, t2, g1, q3]
    try simp (disch := omega) only [wrap_id']
    refine (ih.out (i + 1) _ ?_ ?_ ?_).trans ?_
    · omega
    · omega
    · simp [hg, e1, e3]; omega
    · rfl
  · have e : i = l.length := by omega
    subst e
    simp [hg]
  ) Tryz.f76 Tryz.results76 gl76)
theorem pMarkVt (v : Val) (hv : VLen v) : ∀ (rows : List (List PV)) (π : List (Nat × Nat)) (k : Int), tat rows π = some (rws vP v.l) → 0 ≤ k → k + mkVs v.l ≤ 4611686018427387904 → phi C0 (lim C0) 76 [.nr 0 π 0 v.l.length, (.pv false (.sc (.int .i64 k)))] [(0, .tree .io rows)] = some ((.pv false (.sc (.int .i64 (k + mkVs v.l)))), [(0, .tree .io (tset rows π (rws vP (mVs v.l k))))]) := by
  revert hv
  refine Val.ind1 (P := fun v => VLen v → ∀ (rows : List (List PV)) (π : List (Nat × Nat)) (k : Int), tat rows π = some (rws vP v.l) → 0 ≤ k → k + mkVs v.l ≤ 4611686018427387904 → phi C0 (lim C0) 76 [.nr 0 π 0 v.l.length, (.pv false (.sc (.int .i64 k)))] [(0, .tree .io rows)] = some ((.pv false (.sc (.int .i64 (k + mkVs v.l)))), [(0, .tree .io (tset rows π (rws vP (mVs v.l k))))])) (fun v ih hv rows π k ht h0 h1 => ?_) v
  exact p76_t rows π v.l k ht h0 h1 (fun u hu => by have := (hv.sub u hu).here.2.1.1; omega) fun u hu => ih u hu (hv.sub u hu)
/-- The marks on acts. -/
def mA (a : Act) (K : Int) : Act := ⟨K, mkL a.addr.length (K + 1), K + 1 + a.addr.length, .mk (K + 1 + a.addr.length + 1) (K + 1 + a.addr.length + 1 + 1) (mkL a.val.s.length (K + 1 + a.addr.length + 1 + 1 + 1)) (mBB a.val.k (K + 1 + a.addr.length + 1 + 1 + 1 + a.val.s.length)) (mVs a.val.l (K + 1 + a.addr.length + 1 + 1 + 1 + a.val.s.length + mkBs a.val.k)), mBB a.deps (K + 1 + a.addr.length + 1 + 1 + 1 + a.val.s.length + mkBs a.val.k + mkVs a.val.l)⟩
def mAs : List Act → Int → List Act
  | [], _ => []
  | v :: l, k => mA v k :: mAs l (k + mkA v)
@[simp] theorem mAs_nil (k : Int) : mAs [] k = [] := rfl
theorem aP_mA (a : Act) (K : Int) : aP (mA a K) = [.sc (.int .i64 (K)), .sl (nums .u8 (mkL a.addr.length (K + 1))), .sc (.int .i64 (K + 1 + a.addr.length)), .sc (.int .i64 (K + 1 + a.addr.length + 1)), .sc (.int .i64 (K + 1 + a.addr.length + 1 + 1)), .sl (nums .u8 (mkL a.val.s.length (K + 1 + a.addr.length + 1 + 1 + 1))), .sl (rws byP (mBB a.val.k (K + 1 + a.addr.length + 1 + 1 + 1 + a.val.s.length))), .sl (rws vP (mVs a.val.l (K + 1 + a.addr.length + 1 + 1 + 1 + a.val.s.length + mkBs a.val.k))), .sl (rws byP (mBB a.deps (K + 1 + a.addr.length + 1 + 1 + 1 + a.val.s.length + mkBs a.val.k + mkVs a.val.l)))] := by
  rw [aP_eq]; rfl
@[simp] theorem mAs_len : ∀ (l : List Act) (k : Int), (mAs l k).length = l.length
  | [], _ => by simp
  | v :: l, k => by rw [mAs]; simp [mAs_len l]
theorem mAs_app : ∀ (l m : List Act) (k : Int), mAs (l ++ m) k = mAs l k ++ mAs m (k + mkAs l)
  | [], m, k => by simp
  | v :: l, m, k => by
    rw [List.cons_append, mAs, mAs, mAs_app l m, mkAs]
    simp [Int.add_assoc]
theorem mAs_set (l : List Act) (k : Int) (i : Nat) (h : i < l.length) : (mAs (l.take i) k ++ l.drop i).set i (mA l[i] (k + mkAs (l.take i))) = mAs (l.take (i + 1)) k ++ l.drop (i + 1) := by
  rw [List.set_append_right _ _ (by simp; omega), List.take_succ_eq_append_getElem h, mAs_app, mAs_len, List.length_take, Nat.min_eq_left (by omega), Nat.sub_self, drop_at h, List.append_assoc, mAs, mAs]
  rfl
theorem p38_t (rows : List (List PV)) (π : List (Nat × Nat)) (l : List Act) (k : Int) (ht : tat rows π = some (rws aP l)) (h0 : 0 ≤ k) (h1 : k + mkAs l ≤ 4611686018427387904) (h2 : ∀ a ∈ l, ALen a) (hl : l.length ≤ 1048576) : phi C0 (lim C0) 38 [.nr 0 π 0 l.length, (.pv false (.sc (.int .i64 k)))] [(0, .tree .io rows)] = some ((.pv false (.sc (.int .i64 (k + mkAs l)))), [(0, .tree .io (tset rows π (rws aP (mAs l k))))]) := call0 Tryz.func38 (by kernel_rfl) ((show ∀ fn : Func, fn.results = #[.tmp 4] → globs fn = [0, 5, 9, 1, 4] → lim C0 38 fn [.c (code Tryz.f38)] ⟨_, _⟩ = _ from fun fn hr hg => by
  have t0 := tset_self ht
  have t1 := fun a => tat_tset_self (a := a) ht
  have t2 := fun a b => tset_tset (a := a) (b := b) ht
  simp [code, Tryz.f38, hr, hg]
  refine (loop_to (s0 := ?s4) (fun i => l.length - i) (fun i => [(5, (.pv false (.sc (.int .i64 ((i : Nat)))))), (1, (.pv false (.sc (.int .i64 (k + (mkAs (l.take i) : Nat))))))]) (fun i => [(0, .tree .io (tset rows π (rws aP (mAs (l.take i) k ++ l.drop i))))]) (fun i K => K [(5, (.pv false (.sc (.int .i64 l.length)))), (1, (.pv false (.sc (.int .i64 (k + mkAs l)))))] [(0, .tree .io (tset rows π (rws aP (mAs l k))))]) (fun i => i ≤ l.length) 0 ?hc4 ?h04 ?hs4 ?step4).trans ?r4
  case hc4 => simp; rfl
  case h04 => first | (simp; done) | (simp [*]; done) | exact ⟨by simp, ⟨rfl⟩⟩ | grind | (simp; omega)
  case hs4 => first | (simp; done) | (simp [*]; done)
  case r4 => simp [hg, hr]
  intro n i hi ih
  simp [hg]
  (first | refine ifL_cases (fun h => ?_) (fun h => ?_) | refine gI_cases' (fun h => ?_) (fun h => ?_) | refine gI_cases (fun h => ?_) (fun h => ?_) | refine dI_cases' (fun h => ?_) (fun h => ?_) | refine dI_cases (fun h => ?_) (fun h => ?_)) <;> first | replace h := of_decide_eq_true h | replace h := of_decide_eq_false h | skip
  · have hlt := h
    have e1 := mkAs_at hlt
    have e2 := mkAs_le l (i + 1)
    have e3 : mkA l[i] = 4 + l[i].addr.length + l[i].val.s.length + mkBs l[i].val.k + mkVs l[i].val.l + mkBs l[i].deps := rfl
    have ha := h2 _ (List.getElem_mem hlt)
    have e4 : (rws aP (mAs (l.take i) k ++ l.drop i))[i]? = some [.sc (.int .i64 l[i].act), .sl (nums .u8 l[i].addr), .sc (.int .i64 l[i].item), .sc (.int .i64 l[i].val.kind), .sc (.int .i64 l[i].val.n), .sl (nums .u8 l[i].val.s), .sl (rws byP l[i].val.k), .sl (rws vP l[i].val.l), .sl (rws byP l[i].deps)] := by rw [rws_here aP (by simp [hg]; omega) hlt, aP_eq]
    have e5 : (rws aP (mAs (l.take i) k ++ l.drop i)).set i (aP (mA l[i] (k + mkAs (l.take i)))) = rws aP (mAs (l.take (i + 1)) k ++ l.drop (i + 1)) := by
      rw [← mAs_set l k i hlt]
      exact rws_set _ _ _ _
    rw [aP_mA] at e5
    generalize rws aP (mAs (l.take i) k ++ l.drop i) = Y at e4 e5
    have hY : i < Y.length := (List.getElem?_eq_some_iff.1 e4).1
    have g1 := fun r => List.getElem?_set_self (a := r) hY
    obtain ⟨K, hK⟩ : ∃ K : Int, K = k + (mkAs (l.take i) : Nat) := ⟨_, rfl⟩
    rw [← hK] at e5
    have c1 := at_cell (i := i) (j := 1) (r := [.sc (.int .i64 (K)), .sl (nums .u8 l[i].addr), .sc (.int .i64 l[i].item), .sc (.int .i64 l[i].val.kind), .sc (.int .i64 l[i].val.n), .sl (nums .u8 l[i].val.s), .sl (rws byP l[i].val.k), .sl (rws vP l[i].val.l), .sl (rws byP l[i].deps)]) ht hY rfl
    have q1 := p13_t _ _ l[i].addr (K + 1) c1.1 (by omega) (by omega)
    rw [c1.2] at q1
    simp only [List.set_cons_succ, List.set_cons_zero] at q1
    have c2 := at_cell (i := i) (j := 5) (r := [.sc (.int .i64 (K)), .sl (nums .u8 (mkL l[i].addr.length (K + 1))), .sc (.int .i64 (K + 1 + l[i].addr.length)), .sc (.int .i64 (K + 1 + l[i].addr.length + 1)), .sc (.int .i64 (K + 1 + l[i].addr.length + 1 + 1)), .sl (nums .u8 l[i].val.s), .sl (rws byP l[i].val.k), .sl (rws vP l[i].val.l), .sl (rws byP l[i].deps)]) ht hY rfl
    have q2 := p13_t _ _ l[i].val.s (K + 1 + l[i].addr.length + 1 + 1 + 1) c2.1 (by omega) (by omega)
    rw [c2.2] at q2
    simp only [List.set_cons_succ, List.set_cons_zero] at q2
    have c3 := at_cell (i := i) (j := 6) (r := [.sc (.int .i64 (K)), .sl (nums .u8 (mkL l[i].addr.length (K + 1))), .sc (.int .i64 (K + 1 + l[i].addr.length)), .sc (.int .i64 (K + 1 + l[i].addr.length + 1)), .sc (.int .i64 (K + 1 + l[i].addr.length + 1 + 1)), .sl (nums .u8 (mkL l[i].val.s.length (K + 1 + l[i].addr.length + 1 + 1 + 1))), .sl (rws byP l[i].val.k), .sl (rws vP l[i].val.l), .sl (rws byP l[i].deps)]) ht hY rfl
    have q3 := p75_t _ _ l[i].val.k (K + 1 + l[i].addr.length + 1 + 1 + 1 + l[i].val.s.length) c3.1 (by omega) (by omega) (by have := ha.vl.here.2.1.1; omega)
    rw [c3.2] at q3
    simp only [List.set_cons_succ, List.set_cons_zero] at q3
    have c4 := at_cell (i := i) (j := 7) (r := [.sc (.int .i64 (K)), .sl (nums .u8 (mkL l[i].addr.length (K + 1))), .sc (.int .i64 (K + 1 + l[i].addr.length)), .sc (.int .i64 (K + 1 + l[i].addr.length + 1)), .sc (.int .i64 (K + 1 + l[i].addr.length + 1 + 1)), .sl (nums .u8 (mkL l[i].val.s.length (K + 1 + l[i].addr.length + 1 + 1 + 1))), .sl (rws byP (mBB l[i].val.k (K + 1 + l[i].addr.length + 1 + 1 + 1 + l[i].val.s.length))), .sl (rws vP l[i].val.l), .sl (rws byP l[i].deps)]) ht hY rfl
    have q4 := pMarkVt l[i].val ha.vl _ _ (K + 1 + l[i].addr.length + 1 + 1 + 1 + l[i].val.s.length + mkBs l[i].val.k) c4.1 (by omega) (by omega)
    rw [c4.2] at q4
    simp only [List.set_cons_succ, List.set_cons_zero] at q4
    have c5 := at_cell (i := i) (j := 8) (r := [.sc (.int .i64 (K)), .sl (nums .u8 (mkL l[i].addr.length (K + 1))), .sc (.int .i64 (K + 1 + l[i].addr.length)), .sc (.int .i64 (K + 1 + l[i].addr.length + 1)), .sc (.int .i64 (K + 1 + l[i].addr.length + 1 + 1)), .sl (nums .u8 (mkL l[i].val.s.length (K + 1 + l[i].addr.length + 1 + 1 + 1))), .sl (rws byP (mBB l[i].val.k (K + 1 + l[i].addr.length + 1 + 1 + 1 + l[i].val.s.length))), .sl (rws vP (mVs l[i].val.l (K + 1 + l[i].addr.length + 1 + 1 + 1 + l[i].val.s.length + mkBs l[i].val.k))), .sl (rws byP l[i].deps)]) ht hY rfl
    have q5 := p75_t _ _ l[i].deps (K + 1 + l[i].addr.length + 1 + 1 + 1 + l[i].val.s.length + mkBs l[i].val.k + mkVs l[i].val.l) c5.1 (by omega) (by omega) (by have := ha.dl.1; omega)
    rw [c5.2] at q5
    simp only [List.set_cons_succ, List.set_cons_zero, e5] at q5
    rw [← hK]
    simp [hg, hlt, t1, t2, e4, g1, hr, hg]
    try simp (disch := omega) only [wrap_id']
    simp [hg, hlt, t1, t2, g1, q1]
    try simp (disch := omega) only [wrap_id']
    simp [hg, hlt, t1, t2, g1, q2]
    try simp (disch := omega) only [wrap_id']
    simp [hg, hlt, t1, t2, g1, q3]
    try simp (disch := omega) only [wrap_id']
    simp [hg, hlt, t1, t2, g1, q4]
    try simp (disch := omega) only [wrap_id']
    simp [hg, hlt, t1, t2, g1, q5]
    try simp (disch := omega) only [wrap_id']
    refine (ih.out (i + 1) _ ?_ ?_ ?_).trans ?_
    · omega
    · omega
    · simp [hg, e1, e3]; omega
    · rfl
  · have e : i = l.length := by omega
    subst e
    simp [hg]
  ) Tryz.f38 Tryz.results38 gl38)
theorem p12_t (l : List Act) (same k : Int) (h0 : 0 ≤ k) (h1 : k + mkAs l ≤ 4611686018427387904) (h2 : ∀ a ∈ l, ALen a) (hl : l.length ≤ 1048576) : phi C0 (lim C0) 12 [.ag [.nr 0 [] 0 l.length, (.pv false (.sc (.int .i64 same)))], (.pv false (.sc (.int .i64 k)))] [(0, .tree .io (rws aP l))] = some ((.pv false (.sc (.int .i64 (k + mkAs l)))), [(0, .tree .io (rws aP (mAs l k)))]) := call0 Tryz.func12 (by kernel_rfl) ((show ∀ fn : Func, fn.results = #[.tmp 4] → lim C0 12 fn [.c (code Tryz.f12)] ⟨_, _⟩ = _ from fun fn hr => by
  have q := p38_t (rws aP l) [] l k rfl h0 h1 h2 hl
  simp only [tset] at q
  simp [code, Tryz.f12, hr, q]
  ) Tryz.f12 Tryz.results12)
/-! ### what is held -/
@[simp] theorem mBB_at (l : List (List Int)) (k : Int) (i : Nat) (h : i < (mBB l k).length) : (mBB l k)[i] = mkL (l[i]'(by simpa using h)).length (k + mkBs (l.take i)) := by
  have hl : i < l.length := by simpa using h
  have e := mBB_app (l.take i) (l.drop i) k
  rw [List.take_append_drop] at e
  have e0 : (mBB (l.take i) k).length = i := by simp; omega
  have : (mBB l k)[i]? = some (mkL l[i].length (k + mkBs (l.take i))) := by
    rw [e, List.getElem?_append_right (by omega), e0, Nat.sub_self, drop_at hl]; rfl
  exact (List.getElem?_eq_some_iff.1 this).2
@[simp] theorem mVs_at (l : List Val) (k : Int) (i : Nat) (h : i < (mVs l k).length) : (mVs l k)[i] = mV (l[i]'(by simpa using h)) (k + mkVs (l.take i)) := by
  have hl : i < l.length := by simpa using h
  have e := mVs_app (l.take i) (l.drop i) k
  rw [List.take_append_drop] at e
  have e0 : (mVs (l.take i) k).length = i := by simp; omega
  have : (mVs l k)[i]? = some (mV l[i] (k + mkVs (l.take i))) := by
    rw [e, List.getElem?_append_right (by omega), e0, Nat.sub_self, drop_at hl, mVs]; rfl
  exact (List.getElem?_eq_some_iff.1 this).2
@[simp] theorem mAs_at (l : List Act) (k : Int) (i : Nat) (h : i < (mAs l k).length) : (mAs l k)[i] = mA (l[i]'(by simpa using h)) (k + mkAs (l.take i)) := by
  have hl : i < l.length := by simpa using h
  have e := mAs_app (l.take i) (l.drop i) k
  rw [List.take_append_drop] at e
  have e0 : (mAs (l.take i) k).length = i := by simp; omega
  have : (mAs l k)[i]? = some (mA l[i] (k + mkAs (l.take i))) := by
    rw [e, List.getElem?_append_right (by omega), e0, Nat.sub_self, drop_at hl, mAs]; rfl
  exact (List.getElem?_eq_some_iff.1 this).2
theorem p78 (b : Bool) (l : List (List Int)) (k : Int) (h0 : 0 ≤ k) (h1 : k + mkBs l ≤ 4611686018427387904) (h2 : l.length ≤ 4611686018427387904) : phi C0 (lim C0) 78 [.pv b (.sl (rws byP (mBB l k))), (.pv false (.sc (.int .i64 k)))] [] = some ((.pv false (.sc (.int .i64 (k + mkBs l)))), []) := call0 Tryz.func78 (by kernel_rfl) ((show ∀ fn : Func, fn.results = #[.tmp 4] → globs fn = [0, 5, 9, 1, 19, 4] → lim C0 78 fn [.c (code Tryz.f78)] ⟨_, _⟩ = _ from fun fn hr hg => by
  simp [code, Tryz.f78, hr, hg]
  refine (loop_to (s0 := ?s5) (fun i => l.length - i) (fun i => [(5, (.pv false (.sc (.int .i64 ((i : Nat)))))), (1, (.pv false (.sc (.int .i64 (k + (mkBs (l.take i) : Nat))))))]) (fun i => []) (fun i K => K [(5, (.pv false (.sc (.int .i64 l.length)))), (1, (.pv false (.sc (.int .i64 (k + mkBs l)))))] []) (fun i => i ≤ l.length) 0 ?hc5 ?h05 ?hs5 ?step5).trans ?r5
  case hc5 => simp; rfl
  case h05 => first | (simp; done) | (simp [*]; done) | exact ⟨by simp, ⟨rfl⟩⟩ | grind | (simp; omega)
  case hs5 => first | (simp; done) | (simp [*]; done)
  case r5 => simp [hg, hr]
  intro n i hi ih
  simp [hg]
  (first | refine ifL_cases (fun h => ?_) (fun h => ?_) | refine gI_cases' (fun h => ?_) (fun h => ?_) | refine gI_cases (fun h => ?_) (fun h => ?_) | refine dI_cases' (fun h => ?_) (fun h => ?_) | refine dI_cases (fun h => ?_) (fun h => ?_)) <;> first | replace h := of_decide_eq_true h | replace h := of_decide_eq_false h | skip
  · have hlt := h
    have e1 := mkBs_at hlt
    have e2 := mkBs_le l (i + 1)
    have q := fun b => p77 b l[i].length (k + (mkBs (l.take i) : Nat)) (by omega) (by omega)
    have u1 : ¬ (k + (mkBs (l.take i) : Nat) + l[i].length < 0) := by omega
    simp [hg, hlt, byP, q, u1, hr, hg]
    try simp (disch := omega) only [wrap_id']
    refine (ih.out (i + 1) _ ?_ ?_ ?_).trans ?_
    · omega
    · omega
    · simp [hg, e1]; omega
    · rfl
  · have e : i = l.length := by omega
    subst e
    simp [hg]
  ) Tryz.f78 Tryz.results78 gl78)
end Go.Proofs.YtgbfmdihmnpcdaaGreatDoor
