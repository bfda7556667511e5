/- Marks on trees: entries, events, histories. -/
import Derived.Test.YtgbfmdihmnpcdaaGreatDoorRW16
namespace Go.Proofs.YtgbfmdihmnpcdaaGreatDoor
open Go Go.Pm Go.Proofs
set_option linter.unusedVariables false
set_option linter.unusedSimpArgs false
set_option maxRecDepth 100000
set_option maxHeartbeats 4000000
section
variable {rows a b rs : List (List PV)} {π : List (Nat × Nat)}
theorem tset_step {i j : Nat} {r : List PV} {rs0 : List (List PV)} (h1 : rows[i]? = some r) (h2 : r[j]? = some (.sl rs0)) : tset rows ((i, j) :: π) a = rows.set i (r.set j (.sl (tset rs0 π a))) := by simp only [tset, h1, h2]
theorem tat_tset_app (h : tat rows π = some rs) (π' : List (Nat × Nat)) : tat (tset rows π a) (π ++ π') = tat a π' := by
 induction π generalizing rows with
 | nil => rfl
 | cons x π ih =>
  obtain ⟨i, j⟩ := x
  obtain ⟨r, rs0, h1, h2, h3⟩ := tat_cons.1 h
  have hi : i < rows.length := (List.getElem?_eq_some_iff.1 h1).1
  have hj : j < r.length := (List.getElem?_eq_some_iff.1 h2).1
  rw [tset_step h1 h2, List.cons_append]
  simp only [tat, List.getElem?_set_self hi, List.getElem?_set_self hj]
  exact ih h3
theorem tat_tset_self (h : tat rows π = some rs) : tat (tset rows π a) π = some a := by
 have := tat_tset_app (a := a) h []
 simpa using this
theorem tset_tset_app (h : tat rows π = some rs) (π' : List (Nat × Nat)) : tset (tset rows π a) (π ++ π') b = tset rows π (tset a π' b) := by
 induction π generalizing rows with
 | nil => rfl
 | cons x π ih =>
  obtain ⟨i, j⟩ := x
  obtain ⟨r, rs0, h1, h2, h3⟩ := tat_cons.1 h
  have hi : i < rows.length := (List.getElem?_eq_some_iff.1 h1).1
  have hj : j < r.length := (List.getElem?_eq_some_iff.1 h2).1
  rw [tset_step h1 h2, tset_step h1 h2, List.cons_append, tset_step (List.getElem?_set_self hi) (List.getElem?_set_self hj), ih h3, List.set_set, List.set_set]
theorem tset_tset (h : tat rows π = some rs) : tset (tset rows π a) π b = tset rows π b := by
 have := tset_tset_app (a := a) (b := b) h []
 simpa [tset] using this
theorem tset_self (h : tat rows π = some rs) : tset rows π rs = rows := by
 induction π generalizing rows with
 | nil => simp only [tat] at h; cases h; rfl
 | cons x π ih =>
  obtain ⟨i, j⟩ := x
  obtain ⟨r, rs0, h1, h2, h3⟩ := tat_cons.1 h
  have hi : i < rows.length := (List.getElem?_eq_some_iff.1 h1).1
  have hj : j < r.length := (List.getElem?_eq_some_iff.1 h2).1
  rw [tset_step h1 h2, ih h3]
  have e2 : r.set j (.sl rs0) = r := by
   have := (List.getElem?_eq_some_iff.1 h2).2
   rw [← this]; exact List.set_getElem_self _
  have e1 : rows[i] = r := (List.getElem?_eq_some_iff.1 h1).2
  rw [e2, ← e1]; exact List.set_getElem_self _
end
theorem p13_t (rows : List (List PV)) (π : List (Nat × Nat)) (l : List Int) (k : Int) (ht : tat rows π = some (nums .u8 l)) (h0 : 0 ≤ k) (h1 : k + l.length ≤ 4611686018427387904) : phi C0 (lim C0) 13 [.nr 0 π 0 l.length, (iv k)] [(0, .tree .io rows)] = some ((iv (k + l.length)), [(0, .tree .io (tset rows π (nums .u8 (mkL l.length k))))]) := call0 Tryz.func13 (by kernel_rfl) ((show ∀ fn : Func, fn.results = #[.tmp 4] → globs fn = [0, 5, 9, 1, 4] → lim C0 13 fn [.c (code Tryz.f13)] ⟨_, _⟩ = _ from fun fn hr hg => by
 have t0 := tset_self ht
 have t1 := fun a => tat_tset_self (a := a) ht
 have t2 := fun a b => tset_tset (a := a) (b := b) ht
 simp [code, Tryz.f13, hr, hg]
 refine (loop_to (s0 := ?s1) (fun i => l.length - i) (fun i => [(5, (iv ((i : Nat)))), (1, (iv (k + (i : Nat))))]) (fun i => [(0, .tree .io (tset rows π (nums .u8 (mkL i k ++ l.drop i))))]) (fun i K => K [(5, (iv l.length)), (1, (iv (k + l.length)))] [(0, .tree .io (tset rows π (nums .u8 (mkL l.length k))))]) (fun i => i ≤ l.length) 0 ?hc1 ?h01 ?hs1 ?step1).trans ?r1
 case hc1 => simp; rfl
 case h01 => first | (simp; done) | (simp [*]; done) | exact ⟨by simp, ⟨rfl⟩⟩ | grind | (simp; omega)
 case hs1 => first | (simp; done) | (simp [*]; done)
 case r1 => simp [hg, hr]
 intro n i hi ih
 simp [hg]
 (first | refine ifL_cases (fun h => ?_) (fun h => ?_) | refine gI_cases' (fun h => ?_) (fun h => ?_) | refine gI_cases (fun h => ?_) (fun h => ?_) | refine dI_cases' (fun h => ?_) (fun h => ?_) | refine dI_cases (fun h => ?_) (fun h => ?_)) <;> first | replace h := of_decide_eq_true h | replace h := of_decide_eq_false h | skip
 · have hlt := h
   have e1 : (nums .u8 (mkL i k ++ l.drop i))[i]? = some [.sc (.int .u8 l[i])] := by
    have e : (mkL i k ++ l.drop i)[i]? = some l[i] := by rw [List.getElem?_append_right (by simp [hg]), mkL_len, Nat.sub_self, drop_at hlt]; rfl
    show (List.map _ _)[i]? = _
    rw [List.getElem?_map, e]
    rfl
   have e2 : (nums .u8 (mkL i k ++ l.drop i)).set i [.sc (.int .u8 (IntKind.u8.wrap (k + (i : Nat))))] = nums .u8 (mkL (i + 1) k ++ l.drop (i + 1)) := by
    rw [← mkL_set l k i hlt]
    exact rws_set _ _ _ _
   simp [hg, hlt, e1, e2, t1, t2, hr, hg]
   try simp (disch := omega) only [wrap_id']
   refine (ih.out (i + 1) _ ?_ ?_ ?_).trans ?_
   · omega
   · omega
   · simp [hg]; omega
   · rfl
 · have e : i = l.length := by omega
   subst e
   simp [hg]
 ) Tryz.f13 Tryz.results13 gl13)
def mBB : List (List Int) → Int → List (List Int)
 | [], _ => []
 | b :: l, k => mkL b.length k :: mBB l (k + b.length)
@[simp] theorem mBB_nil (k : Int) : mBB [] k = [] := rfl
@[simp] theorem mBB_len : ∀ (l : List (List Int)) (k : Int), (mBB l k).length = l.length
 | [], _ => rfl
 | b :: l, k => by simp [mBB, mBB_len l]
theorem mBB_app : ∀ (l m : List (List Int)) (k : Int), mBB (l ++ m) k = mBB l k ++ mBB m (k + mkBs l)
 | [], m, k => by simp [mBB]
 | b :: l, m, k => by
  rw [List.cons_append, mBB, mBB, mBB_app l m, mkBs]
  simp [Int.add_assoc]
theorem mBB_set (l : List (List Int)) (k : Int) (i : Nat) (h : i < l.length) : (mBB (l.take i) k ++ l.drop i).set i (mkL l[i].length (k + mkBs (l.take i))) = mBB (l.take (i + 1)) k ++ l.drop (i + 1) := by
 rw [List.set_append_right _ _ (by simp; omega), List.take_succ_eq_append_getElem h, mBB_app, mBB_len, List.length_take, Nat.min_eq_left (by omega), Nat.sub_self, drop_at h, List.append_assoc]
 rfl
theorem p75_t (rows : List (List PV)) (π : List (Nat × Nat)) (l : List (List Int)) (k : Int) (ht : tat rows π = some (rws byP l)) (h0 : 0 ≤ k) (h1 : k + mkBs l ≤ 4611686018427387904) (h2 : l.length ≤ 4611686018427387904) : phi C0 (lim C0) 75 [.nr 0 π 0 l.length, (iv k)] [(0, .tree .io rows)] = some ((iv (k + mkBs l)), [(0, .tree .io (tset rows π (rws byP (mBB l k))))]) := call0 Tryz.func75 (by kernel_rfl) ((show ∀ fn : Func, fn.results = #[.tmp 4] → globs fn = [0, 5, 9, 1, 4] → lim C0 75 fn [.c (code Tryz.f75)] ⟨_, _⟩ = _ from fun fn hr hg => by
 have t0 := tset_self ht
 have t1 := fun a => tat_tset_self (a := a) ht
 have t3 := fun a x => tat_tset_app (a := a) ht [x]
 have t4 := fun a b x => tset_tset_app (a := a) (b := b) ht [x]
 simp [code, Tryz.f75, hr, hg]
 refine (loop_to (s0 := ?s2) (fun i => l.length - i) (fun i => [(5, (iv ((i : Nat)))), (1, (iv (k + (mkBs (l.take i) : Nat))))]) (fun i => [(0, .tree .io (tset rows π (rws byP (mBB (l.take i) k ++ l.drop i))))]) (fun i K => K [(5, (iv l.length)), (1, (iv (k + mkBs l)))] [(0, .tree .io (tset rows π (rws byP (mBB l k))))]) (fun i => i ≤ l.length) 0 ?hc2 ?h02 ?hs2 ?step2).trans ?r2
 case hc2 => simp; rfl
 case h02 => first | (simp; done) | (simp [*]; done) | exact ⟨by simp, ⟨rfl⟩⟩ | grind | (simp; omega)
 case hs2 => first | (simp; done) | (simp [*]; done)
 case r2 => simp [hg, hr]
 intro n i hi ih
 simp [hg]
 (first | refine ifL_cases (fun h => ?_) (fun h => ?_) | refine gI_cases' (fun h => ?_) (fun h => ?_) | refine gI_cases (fun h => ?_) (fun h => ?_) | refine dI_cases' (fun h => ?_) (fun h => ?_) | refine dI_cases (fun h => ?_) (fun h => ?_)) <;> first | replace h := of_decide_eq_true h | replace h := of_decide_eq_false h | skip
 · have hlt := h
   have e1 := mkBs_at hlt
   have e2 := mkBs_le l (i + 1)
   have e3 : (rws byP (mBB (l.take i) k ++ l.drop i))[i]? = some [.sl (nums .u8 l[i])] := by
    have e : (mBB (l.take i) k ++ l.drop i)[i]? = some l[i] := by
     have e0 : (mBB (l.take i) k).length = i := by simp [hg]; omega
     rw [List.getElem?_append_right (by omega), e0, Nat.sub_self, drop_at hlt]; rfl
    show (List.map _ _)[i]? = _
    rw [List.getElem?_map, e]
    rfl
   have e4 : (rws byP (mBB (l.take i) k ++ l.drop i)).set i [.sl (nums .u8 (mkL l[i].length (k + mkBs (l.take i))))] = rws byP (mBB (l.take (i + 1)) k ++ l.drop (i + 1)) := by
    rw [← mBB_set l k i hlt]
    exact rws_set _ _ _ _
   generalize rws byP (mBB (l.take i) k ++ l.drop i) = Y at e3 e4
   have t5 := t3 Y (i, 0)
   have q := p13_t (tset rows π Y) (π ++ [(i, 0)]) l[i] (k + (mkBs (l.take i) : Nat)) (by rw [t5]; simp [hg, e3]) (by omega) (by omega)
   rw [t4] at q
   simp only [tset, e3] at q
   simp [hg, e4] at q
   simp [hg, hlt, t1, e3, q, hr, hg]
   try simp (disch := omega) only [wrap_id']
   refine (ih.out (i + 1) _ ?_ ?_ ?_).trans ?_
   · omega
   · omega
   · simp [hg, e1]; omega
   · rfl
 · have e : i = l.length := by omega
   subst e
   simp [hg]
 ) Tryz.f75 Tryz.results75 gl75)
theorem at_cell {rows rs Y : List (List PV)} {π : List (Nat × Nat)} {i j : Nat} {r : List PV} {x : List (List PV)} (ht : tat rows π = some rs) (hi : i < Y.length) (h : r[j]? = some (.sl x)) :
    tat (tset rows π (Y.set i r)) (π ++ [(i, j)]) = some x ∧ ∀ new, tset (tset rows π (Y.set i r)) (π ++ [(i, j)]) new = tset rows π (Y.set i (r.set j (.sl new))) := by
 have e := List.getElem?_set_self (a := r) hi
 refine ⟨?_, fun new => ?_⟩
 · rw [tat_tset_app ht]; simp only [tat, e, h]
 · rw [tset_tset_app ht, tset_step e h, List.set_set]; rfl
mutual
def mV : Val → Int → Val
 | .mk _ _ s kk l, k => .mk k (k + 1) (mkL s.length (k + 1 + 1)) (mBB kk (k + 1 + 1 + s.length)) (mVs l (k + 1 + 1 + s.length + mkBs kk))
def mVs : List Val → Int → List Val
 | [], _ => []
 | v :: l, k => mV v k :: mVs l (k + mkV v)
end
@[simp] theorem mVs_nil (k : Int) : mVs [] k = [] := by rw [mVs]
theorem mV_eq (v : Val) (k : Int) : mV v k = .mk k (k + 1) (mkL v.s.length (k + 1 + 1)) (mBB v.k (k + 1 + 1 + v.s.length)) (mVs v.l (k + 1 + 1 + v.s.length + mkBs v.k)) := by
 cases v; rw [mV]; rfl
theorem vP_mV (v : Val) (k : Int) : vP (mV v k) = [.sc (.int .i64 k), .sc (.int .i64 (k + 1)), .sl (nums .u8 (mkL v.s.length (k + 1 + 1))), .sl (rws byP (mBB v.k (k + 1 + 1 + v.s.length))), .sl (rws vP (mVs v.l (k + 1 + 1 + v.s.length + mkBs v.k)))] := by
 rw [mV_eq, vP_eq]; rfl
@[simp] theorem mVs_len : ∀ (l : List Val) (k : Int), (mVs l k).length = l.length
 | [], _ => by simp
 | v :: l, k => by rw [mVs]; simp [mVs_len l]
theorem mVs_app : ∀ (l m : List Val) (k : Int), mVs (l ++ m) k = mVs l k ++ mVs m (k + mkVs l)
 | [], m, k => by simp
 | v :: l, m, k => by
  rw [List.cons_append, mVs, mVs, mVs_app l m, mkVs]
  simp [Int.add_assoc]
theorem mVs_set (l : List Val) (k : Int) (i : Nat) (h : i < l.length) : (mVs (l.take i) k ++ l.drop i).set i (mV l[i] (k + mkVs (l.take i))) = mVs (l.take (i + 1)) k ++ l.drop (i + 1) := by
 rw [List.set_append_right _ _ (by simp; omega), List.take_succ_eq_append_getElem h, mVs_app, mVs_len, List.length_take, Nat.min_eq_left (by omega), Nat.sub_self, drop_at h, List.append_assoc, mVs, mVs]
 rfl
theorem rws_here {α : Type} (enc : α → List PV) {a l : List α} {i : Nat} (ha : a.length = i) (h : i < l.length) : (rws enc (a ++ l.drop i))[i]? = some (enc l[i]) := by
 show (List.map _ _)[i]? = _
 rw [List.getElem?_map, List.getElem?_append_right (by omega), ha, Nat.sub_self, drop_at h]
 rfl
theorem p76_t (rows : List (List PV)) (π : List (Nat × Nat)) (l : List Val) (k : Int) (ht : tat rows π = some (rws vP l)) (h0 : 0 ≤ k) (h1 : k + mkVs l ≤ 4611686018427387904) (h2 : ∀ u ∈ l, u.k.length ≤ 4611686018427387904) (ih0 : ∀ u ∈ l, ∀ (rows : List (List PV)) (π : List (Nat × Nat)) (k : Int), tat rows π = some (rws vP u.l) → 0 ≤ k → k + mkVs u.l ≤ 4611686018427387904 → phi C0 (lim C0) 76 [.nr 0 π 0 u.l.length, (iv k)] [(0, .tree .io rows)] = some ((iv (k + mkVs u.l)), [(0, .tree .io (tset rows π (rws vP (mVs u.l k))))])) : phi C0 (lim C0) 76 [.nr 0 π 0 l.length, (iv k)] [(0, .tree .io rows)] = some ((iv (k + mkVs l)), [(0, .tree .io (tset rows π (rws vP (mVs l k))))]) := call0 Tryz.func76 (by kernel_rfl) ((show ∀ fn : Func, fn.results = #[.tmp 4] → globs fn = [0, 5, 9, 1, 4] → lim C0 76 fn [.c (code Tryz.f76)] ⟨_, _⟩ = _ from fun fn hr hg => by
 have t0 := tset_self ht
 have t1 := fun a => tat_tset_self (a := a) ht
 have t2 := fun a b => tset_tset (a := a) (b := b) ht
 have hl := mkVs_len l
 simp [code, Tryz.f76, hr, hg]
 refine (loop_to (s0 := ?s3) (fun i => l.length - i) (fun i => [(5, (iv ((i : Nat)))), (1, (iv (k + (mkVs (l.take i) : Nat))))]) (fun i => [(0, .tree .io (tset rows π (rws vP (mVs (l.take i) k ++ l.drop i))))]) (fun i K => K [(5, (iv l.length)), (1, (iv (k + mkVs l)))] [(0, .tree .io (tset rows π (rws vP (mVs l k))))]) (fun i => i ≤ l.length) 0 ?hc3 ?h03 ?hs3 ?step3).trans ?r3
 case hc3 => simp; rfl
 case h03 => first | (simp; done) | (simp [*]; done) | exact ⟨by simp, ⟨rfl⟩⟩ | grind | (simp; omega)
 case hs3 => first | (simp; done) | (simp [*]; done)
 case r3 => simp [hg, hr]
 intro n i hi ih
 simp [hg]
 (first | refine ifL_cases (fun h => ?_) (fun h => ?_) | refine gI_cases' (fun h => ?_) (fun h => ?_) | refine gI_cases (fun h => ?_) (fun h => ?_) | refine dI_cases' (fun h => ?_) (fun h => ?_) | refine dI_cases (fun h => ?_) (fun h => ?_)) <;> first | replace h := of_decide_eq_true h | replace h := of_decide_eq_false h | skip
 · have hlt := h
   have e1 := mkVs_at hlt
   have e2 := mkVs_le l (i + 1)
   have e3 := mkV_eq l[i]
   have e4 : (rws vP (mVs (l.take i) k ++ l.drop i))[i]? = some [.sc (.int .i64 l[i].kind), .sc (.int .i64 l[i].n), .sl (nums .u8 l[i].s), .sl (rws byP l[i].k), .sl (rws vP l[i].l)] := by rw [rws_here vP (by simp [hg]; omega) hlt, vP_eq]
   have e5 : (rws vP (mVs (l.take i) k ++ l.drop i)).set i (vP (mV l[i] (k + mkVs (l.take i)))) = rws vP (mVs (l.take (i + 1)) k ++ l.drop (i + 1)) := by
    rw [← mVs_set l k i hlt]
    exact rws_set _ _ _ _
   rw [vP_mV] at e5
   generalize rws vP (mVs (l.take i) k ++ l.drop i) = Y at e4 e5
   have hY : i < Y.length := (List.getElem?_eq_some_iff.1 e4).1
   have g1 := fun r => List.getElem?_set_self (a := r) hY
   obtain ⟨K, hK⟩ : ∃ K : Int, K = k + (mkVs (l.take i) : Nat) := ⟨_, rfl⟩
   rw [← hK] at e5
   have c1 := at_cell (i := i) (j := 2) (r := [.sc (.int .i64 K), .sc (.int .i64 (K + 1)), .sl (nums .u8 l[i].s), .sl (rws byP l[i].k), .sl (rws vP l[i].l)]) ht hY rfl
   have q1 := p13_t _ _ l[i].s (K + 1 + 1) c1.1 (by omega) (by omega)
   rw [c1.2] at q1
   simp only [List.set_cons_succ, List.set_cons_zero] at q1
   have c2 := at_cell (i := i) (j := 3) (r := [.sc (.int .i64 K), .sc (.int .i64 (K + 1)), .sl (nums .u8 (mkL l[i].s.length (K + 1 + 1))), .sl (rws byP l[i].k), .sl (rws vP l[i].l)]) ht hY rfl
   have q2 := p75_t _ _ l[i].k (K + 1 + 1 + l[i].s.length) c2.1 (by omega) (by omega) (h2 _ (List.getElem_mem hlt))
   rw [c2.2] at q2
   simp only [List.set_cons_succ, List.set_cons_zero] at q2
   have c3 := at_cell (i := i) (j := 4) (r := [.sc (.int .i64 K), .sc (.int .i64 (K + 1)), .sl (nums .u8 (mkL l[i].s.length (K + 1 + 1))), .sl (rws byP (mBB l[i].k (K + 1 + 1 + l[i].s.length))), .sl (rws vP l[i].l)]) ht hY rfl
   have q3 := ih0 l[i] (List.getElem_mem hlt) _ _ (K + 1 + 1 + l[i].s.length + mkBs l[i].k) c3.1 (by omega) (by omega)
   rw [c3.2] at q3
   simp only [List.set_cons_succ, List.set_cons_zero, e5] at q3
   rw [← hK]
   simp [hg, hlt, t1, t2, e4, g1, hr, hg]
   try simp (disch := omega) only [wrap_id']
   simp [hg, hlt, t1, t2, g1, q1]
   try simp (disch := omega) only [wrap_id']
   simp [hg, hlt, t1, t2, g1, q2]
   try simp (disch := omega) only [wrap_id']
   simp [hg, hlt, t1, t2, g1, q3]
   try simp (disch := omega) only [wrap_id']
   refine (ih.out (i + 1) _ ?_ ?_ ?_).trans ?_
   · omega
   · omega
   · simp [hg, e1, e3]; omega
   · rfl
 · have e : i = l.length := by omega
   subst e
   simp [hg]
 ) Tryz.f76 Tryz.results76 gl76)
theorem pMarkVt (v : Val) (hv : VLen v) : ∀ (rows : List (List PV)) (π : List (Nat × Nat)) (k : Int), tat rows π = some (rws vP v.l) → 0 ≤ k → k + mkVs v.l ≤ 4611686018427387904 → phi C0 (lim C0) 76 [.nr 0 π 0 v.l.length, (iv k)] [(0, .tree .io rows)] = some ((iv (k + mkVs v.l)), [(0, .tree .io (tset rows π (rws vP (mVs v.l k))))]) := by
 revert hv
 refine Val.ind1 (P := fun v => VLen v → ∀ (rows : List (List PV)) (π : List (Nat × Nat)) (k : Int), tat rows π = some (rws vP v.l) → 0 ≤ k → k + mkVs v.l ≤ 4611686018427387904 → phi C0 (lim C0) 76 [.nr 0 π 0 v.l.length, (iv k)] [(0, .tree .io rows)] = some ((iv (k + mkVs v.l)), [(0, .tree .io (tset rows π (rws vP (mVs v.l k))))])) (fun v ih hv rows π k ht h0 h1 => ?_) v
 exact p76_t rows π v.l k ht h0 h1 (fun u hu => by have := (hv.sub u hu).here.2.1.1; omega) fun u hu => ih u hu (hv.sub u hu)
def mN (a : En) (K : Int) : En := ⟨(mkL a.addr.length (K)), .mk (K + a.addr.length) (K + a.addr.length + 1) (mkL a.val.s.length (K + a.addr.length + 1 + 1)) (mBB a.val.k (K + a.addr.length + 1 + 1 + a.val.s.length)) (mVs a.val.l (K + a.addr.length + 1 + 1 + a.val.s.length + mkBs a.val.k)), (mBB a.deps (K + a.addr.length + 1 + 1 + a.val.s.length + mkBs a.val.k + mkVs a.val.l)), (decide ((K + a.addr.length + 1 + 1 + a.val.s.length + mkBs a.val.k + mkVs a.val.l + mkBs a.deps).tmod 3 = 0)), (K + a.addr.length + 1 + 1 + a.val.s.length + mkBs a.val.k + mkVs a.val.l + mkBs a.deps + 1)⟩
def mNs : List En → Int → List En
 | [], _ => []
 | v :: l, k => mN v k :: mNs l (k + mkA (nA v))
@[simp] theorem mNs_nil (k : Int) : mNs [] k = [] := rfl
theorem nP_mN (a : En) (K : Int) : nP (mN a K) = [.sl (nums .u8 (mkL a.addr.length (K))), .sc (.int .i64 (K + a.addr.length)), .sc (.int .i64 (K + a.addr.length + 1)), .sl (nums .u8 (mkL a.val.s.length (K + a.addr.length + 1 + 1))), .sl (rws byP (mBB a.val.k (K + a.addr.length + 1 + 1 + a.val.s.length))), .sl (rws vP (mVs a.val.l (K + a.addr.length + 1 + 1 + a.val.s.length + mkBs a.val.k))), .sl (rws byP (mBB a.deps (K + a.addr.length + 1 + 1 + a.val.s.length + mkBs a.val.k + mkVs a.val.l))), .sc (.bool (decide ((K + a.addr.length + 1 + 1 + a.val.s.length + mkBs a.val.k + mkVs a.val.l + mkBs a.deps).tmod 3 = 0))), .sc (.int .i64 (K + a.addr.length + 1 + 1 + a.val.s.length + mkBs a.val.k + mkVs a.val.l + mkBs a.deps + 1))] := by
 rw [nP_eq]; rfl
@[simp] theorem mNs_len : ∀ (l : List En) (k : Int), (mNs l k).length = l.length
 | [], _ => by simp
 | v :: l, k => by rw [mNs]; simp [mNs_len l]
theorem mNs_app : ∀ (l m : List En) (k : Int), mNs (l ++ m) k = mNs l k ++ mNs m (k + mkAs (nAs l))
 | [], m, k => by simp
 | v :: l, m, k => by
  rw [List.cons_append, mNs, mNs, mNs_app l m, show nAs (v :: l) = nA v :: nAs l from rfl, mkAs]
  simp [Int.add_assoc]
theorem mNs_set (l : List En) (k : Int) (i : Nat) (h : i < l.length) : (mNs (l.take i) k ++ l.drop i).set i (mN l[i] (k + mkAs (nAs (l.take i)))) = mNs (l.take (i + 1)) k ++ l.drop (i + 1) := by
 rw [List.set_append_right _ _ (by simp; omega), List.take_succ_eq_append_getElem h, mNs_app, mNs_len, List.length_take, Nat.min_eq_left (by omega), Nat.sub_self, drop_at h, List.append_assoc, mNs, mNs]
 rfl
theorem p97_t (rows : List (List PV)) (π : List (Nat × Nat)) (l : List En) (k : Int) (ht : tat rows π = some (rws nP l)) (h0 : 0 ≤ k) (h1 : k + mkAs (nAs l) ≤ 4611686018427387904) (h2 : ∀ a ∈ l, ALen (nA a)) (hl : l.length ≤ 1048576) : phi C0 (lim C0) 97 [.nr 0 π 0 l.length, (iv k)] [(0, .tree .io rows)] = some ((iv (k + mkAs (nAs l))), [(0, .tree .io (tset rows π (rws nP (mNs l k))))]) := call0 Tryz.func97 (by kernel_rfl) ((show ∀ fn : Func, fn.results = #[.tmp 4] → globs fn = [0, 5, 9, 1, 4] → lim C0 97 fn [.c (code Tryz.f97)] ⟨_, _⟩ = _ from fun fn hr hg => by
 have t0 := tset_self ht
 have t1 := fun a => tat_tset_self (a := a) ht
 have t2 := fun a b => tset_tset (a := a) (b := b) ht
 simp [code, Tryz.f97, hr, hg]
 refine (loop_to (s0 := ?s4) (fun i => l.length - i) (fun i => [(5, (iv ((i : Nat)))), (1, (iv (k + (mkAs (nAs (l.take i)) : Nat))))]) (fun i => [(0, .tree .io (tset rows π (rws nP (mNs (l.take i) k ++ l.drop i))))]) (fun i K => K [(5, (iv l.length)), (1, (iv (k + mkAs (nAs l))))] [(0, .tree .io (tset rows π (rws nP (mNs l k))))]) (fun i => i ≤ l.length) 0 ?hc4 ?h04 ?hs4 ?step4).trans ?r4
 case hc4 => simp; rfl
 case h04 => first | (simp; done) | (simp [*]; done) | exact ⟨by simp, ⟨rfl⟩⟩ | grind | (simp; omega)
 case hs4 => first | (simp; done) | (simp [*]; done)
 case r4 => simp [hg, hr]
 intro n i hi ih
 simp [hg]
 (first | refine ifL_cases (fun h => ?_) (fun h => ?_) | refine gI_cases' (fun h => ?_) (fun h => ?_) | refine gI_cases (fun h => ?_) (fun h => ?_) | refine dI_cases' (fun h => ?_) (fun h => ?_) | refine dI_cases (fun h => ?_) (fun h => ?_)) <;> first | replace h := of_decide_eq_true h | replace h := of_decide_eq_false h | skip
 · have hlt := h
   have e1 : mkAs (nAs (l.take (i + 1))) = mkAs (nAs (l.take i)) + mkA (nA l[i]) := by
    rw [nAs_take, nAs_take, mkAs_at (by simpa using hlt), nAs_at]
   have e2 : mkAs (nAs (l.take (i + 1))) ≤ mkAs (nAs l) := by rw [nAs_take]; exact mkAs_le _ _
   have e3 : mkA (nA l[i]) = 4 + l[i].addr.length + l[i].val.s.length + mkBs l[i].val.k + mkVs l[i].val.l + mkBs l[i].deps := rfl
   have ha := h2 _ (List.getElem_mem hlt)
   have hv : VLen l[i].val := ha.vl
   have hd : l[i].deps.length ≤ 1048576 := ha.dl.1
   have e4 : (rws nP (mNs (l.take i) k ++ l.drop i))[i]? = some [.sl (nums .u8 (l[i].addr)), .sc (.int .i64 (l[i].val.kind)), .sc (.int .i64 (l[i].val.n)), .sl (nums .u8 (l[i].val.s)), .sl (rws byP (l[i].val.k)), .sl (rws vP (l[i].val.l)), .sl (rws byP (l[i].deps)), .sc (.bool (l[i].taint)), .sc (.int .i64 (l[i].turned))] := by rw [rws_here nP (by simp [hg]; omega) hlt, nP_eq]
   have e5 : (rws nP (mNs (l.take i) k ++ l.drop i)).set i (nP (mN l[i] (k + mkAs (nAs (l.take i))))) = rws nP (mNs (l.take (i + 1)) k ++ l.drop (i + 1)) := by
    rw [← mNs_set l k i hlt]
    exact rws_set _ _ _ _
   rw [nP_mN] at e5
   generalize rws nP (mNs (l.take i) k ++ l.drop i) = Y at e4 e5
   have hY : i < Y.length := (List.getElem?_eq_some_iff.1 e4).1
   have g1 := fun r => List.getElem?_set_self (a := r) hY
   have hY0 : Y.set i [.sl (nums .u8 (l[i].addr)), .sc (.int .i64 (l[i].val.kind)), .sc (.int .i64 (l[i].val.n)), .sl (nums .u8 (l[i].val.s)), .sl (rws byP (l[i].val.k)), .sl (rws vP (l[i].val.l)), .sl (rws byP (l[i].deps)), .sc (.bool (l[i].taint)), .sc (.int .i64 (l[i].turned))] = Y := by
    have h := (List.getElem?_eq_some_iff.1 e4).2
    rw [← h]; exact List.set_getElem_self _
   obtain ⟨K, hK⟩ : ∃ K : Int, K = k + (mkAs (nAs (l.take i)) : Nat) := ⟨_, rfl⟩
   rw [← hK] at e5
   have c1 := at_cell (i := i) (j := 0) (r := [.sl (nums .u8 (l[i].addr)), .sc (.int .i64 (l[i].val.kind)), .sc (.int .i64 (l[i].val.n)), .sl (nums .u8 (l[i].val.s)), .sl (rws byP (l[i].val.k)), .sl (rws vP (l[i].val.l)), .sl (rws byP (l[i].deps)), .sc (.bool (l[i].taint)), .sc (.int .i64 (l[i].turned))]) ht hY rfl
   have q1 := p13_t _ _ l[i].addr (K) c1.1 (by omega) (by omega)
   rw [c1.2] at q1
   simp only [List.set_cons_succ, List.set_cons_zero, hY0] at q1
   have c2 := at_cell (i := i) (j := 3) (r := [.sl (nums .u8 (mkL l[i].addr.length (K))), .sc (.int .i64 (K + l[i].addr.length)), .sc (.int .i64 (K + l[i].addr.length + 1)), .sl (nums .u8 (l[i].val.s)), .sl (rws byP (l[i].val.k)), .sl (rws vP (l[i].val.l)), .sl (rws byP (l[i].deps)), .sc (.bool (l[i].taint)), .sc (.int .i64 (l[i].turned))]) ht hY rfl
   have q2 := p13_t _ _ l[i].val.s (K + l[i].addr.length + 1 + 1) c2.1 (by omega) (by omega)
   rw [c2.2] at q2
   simp only [List.set_cons_succ, List.set_cons_zero] at q2
   have c3 := at_cell (i := i) (j := 4) (r := [.sl (nums .u8 (mkL l[i].addr.length (K))), .sc (.int .i64 (K + l[i].addr.length)), .sc (.int .i64 (K + l[i].addr.length + 1)), .sl (nums .u8 (mkL l[i].val.s.length (K + l[i].addr.length + 1 + 1))), .sl (rws byP (l[i].val.k)), .sl (rws vP (l[i].val.l)), .sl (rws byP (l[i].deps)), .sc (.bool (l[i].taint)), .sc (.int .i64 (l[i].turned))]) ht hY rfl
   have q3 := p75_t _ _ l[i].val.k (K + l[i].addr.length + 1 + 1 + l[i].val.s.length) c3.1 (by omega) (by omega) (by have := hv.here.2.1.1; omega)
   rw [c3.2] at q3
   simp only [List.set_cons_succ, List.set_cons_zero] at q3
   have c4 := at_cell (i := i) (j := 5) (r := [.sl (nums .u8 (mkL l[i].addr.length (K))), .sc (.int .i64 (K + l[i].addr.length)), .sc (.int .i64 (K + l[i].addr.length + 1)), .sl (nums .u8 (mkL l[i].val.s.length (K + l[i].addr.length + 1 + 1))), .sl (rws byP (mBB l[i].val.k (K + l[i].addr.length + 1 + 1 + l[i].val.s.length))), .sl (rws vP (l[i].val.l)), .sl (rws byP (l[i].deps)), .sc (.bool (l[i].taint)), .sc (.int .i64 (l[i].turned))]) ht hY rfl
   have q4 := pMarkVt l[i].val hv _ _ (K + l[i].addr.length + 1 + 1 + l[i].val.s.length + mkBs l[i].val.k) c4.1 (by omega) (by omega)
   rw [c4.2] at q4
   simp only [List.set_cons_succ, List.set_cons_zero] at q4
   have c5 := at_cell (i := i) (j := 6) (r := [.sl (nums .u8 (mkL l[i].addr.length (K))), .sc (.int .i64 (K + l[i].addr.length)), .sc (.int .i64 (K + l[i].addr.length + 1)), .sl (nums .u8 (mkL l[i].val.s.length (K + l[i].addr.length + 1 + 1))), .sl (rws byP (mBB l[i].val.k (K + l[i].addr.length + 1 + 1 + l[i].val.s.length))), .sl (rws vP (mVs l[i].val.l (K + l[i].addr.length + 1 + 1 + l[i].val.s.length + mkBs l[i].val.k))), .sl (rws byP (l[i].deps)), .sc (.bool (l[i].taint)), .sc (.int .i64 (l[i].turned))]) ht hY rfl
   have q5 := p75_t _ _ l[i].deps (K + l[i].addr.length + 1 + 1 + l[i].val.s.length + mkBs l[i].val.k + mkVs l[i].val.l) c5.1 (by omega) (by omega) (by omega)
   rw [c5.2] at q5
   simp only [List.set_cons_succ, List.set_cons_zero] at q5
   have q9 := bin_rem (.int .i64) .i64 (K + l[i].addr.length + 1 + 1 + l[i].val.s.length + mkBs l[i].val.k + mkVs l[i].val.l + mkBs l[i].deps) 3 (by decide)
   rw [← hK]
   simp [hg, hlt, t1, t2, e4, g1, hr, hg]
   try simp (disch := omega) only [wrap_id']
   simp [hg, hlt, t1, t2, g1, q1]
   try simp (disch := omega) only [wrap_id']
   simp [hg, hlt, t1, t2, g1, q2]
   try simp (disch := omega) only [wrap_id']
   simp [hg, hlt, t1, t2, g1, q3]
   try simp (disch := omega) only [wrap_id']
   simp [hg, hlt, t1, t2, g1, q4]
   try simp (disch := omega) only [wrap_id']
   simp [hg, hlt, t1, t2, g1, q5]
   try simp (disch := omega) only [wrap_id']
   simp [hg, hlt, t1, t2, g1, q9, e5]
   try simp (disch := omega) only [wrap_id']
   refine (ih.out (i + 1) _ ?_ ?_ ?_).trans ?_
   · omega
   · omega
   · simp [hg, e1, e3, e5]; omega
   · rfl
 · have e : i = l.length := by omega
   subst e
   simp [hg]
 ) Tryz.f97 Tryz.results97 gl97)
def mE (a : Ev) (K : Int) : Ev := ⟨(K), (mkL a.addr.length (K + 1)), (K + 1 + a.addr.length), .mk (K + 1 + a.addr.length + 1) (K + 1 + a.addr.length + 1 + 1) (mkL a.val.s.length (K + 1 + a.addr.length + 1 + 1 + 1)) (mBB a.val.k (K + 1 + a.addr.length + 1 + 1 + 1 + a.val.s.length)) (mVs a.val.l (K + 1 + a.addr.length + 1 + 1 + 1 + a.val.s.length + mkBs a.val.k)), (mBB a.deps (K + 1 + a.addr.length + 1 + 1 + 1 + a.val.s.length + mkBs a.val.k + mkVs a.val.l))⟩
def mEs : List Ev → Int → List Ev
 | [], _ => []
 | v :: l, k => mE v k :: mEs l (k + mkA (eA v))
@[simp] theorem mEs_nil (k : Int) : mEs [] k = [] := rfl
theorem eP_mE (a : Ev) (K : Int) : eP (mE a K) = [.sc (.int .i64 (K)), .sl (nums .u8 (mkL a.addr.length (K + 1))), .sc (.int .i64 (K + 1 + a.addr.length)), .sc (.int .i64 (K + 1 + a.addr.length + 1)), .sc (.int .i64 (K + 1 + a.addr.length + 1 + 1)), .sl (nums .u8 (mkL a.val.s.length (K + 1 + a.addr.length + 1 + 1 + 1))), .sl (rws byP (mBB a.val.k (K + 1 + a.addr.length + 1 + 1 + 1 + a.val.s.length))), .sl (rws vP (mVs a.val.l (K + 1 + a.addr.length + 1 + 1 + 1 + a.val.s.length + mkBs a.val.k))), .sl (rws byP (mBB a.deps (K + 1 + a.addr.length + 1 + 1 + 1 + a.val.s.length + mkBs a.val.k + mkVs a.val.l)))] := by
 rw [eP_eq]; rfl
@[simp] theorem mEs_len : ∀ (l : List Ev) (k : Int), (mEs l k).length = l.length
 | [], _ => by simp
 | v :: l, k => by rw [mEs]; simp [mEs_len l]
theorem mEs_app : ∀ (l m : List Ev) (k : Int), mEs (l ++ m) k = mEs l k ++ mEs m (k + mkAs (eAs l))
 | [], m, k => by simp
 | v :: l, m, k => by
  rw [List.cons_append, mEs, mEs, mEs_app l m, show eAs (v :: l) = eA v :: eAs l from rfl, mkAs]
  simp [Int.add_assoc]
theorem mEs_set (l : List Ev) (k : Int) (i : Nat) (h : i < l.length) : (mEs (l.take i) k ++ l.drop i).set i (mE l[i] (k + mkAs (eAs (l.take i)))) = mEs (l.take (i + 1)) k ++ l.drop (i + 1) := by
 rw [List.set_append_right _ _ (by simp; omega), List.take_succ_eq_append_getElem h, mEs_app, mEs_len, List.length_take, Nat.min_eq_left (by omega), Nat.sub_self, drop_at h, List.append_assoc, mEs, mEs]
 rfl
theorem p54_t (rows : List (List PV)) (π : List (Nat × Nat)) (l : List Ev) (k : Int) (ht : tat rows π = some (rws eP l)) (h0 : 0 ≤ k) (h1 : k + mkAs (eAs l) ≤ 4611686018427387904) (h2 : ∀ a ∈ l, ALen (eA a)) (hl : l.length ≤ 1048576) : phi C0 (lim C0) 54 [.nr 0 π 0 l.length, (iv k)] [(0, .tree .io rows)] = some ((iv (k + mkAs (eAs l))), [(0, .tree .io (tset rows π (rws eP (mEs l k))))]) := call0 Tryz.func54 (by kernel_rfl) ((show ∀ fn : Func, fn.results = #[.tmp 4] → globs fn = [0, 5, 9, 1, 4] → lim C0 54 fn [.c (code Tryz.f54)] ⟨_, _⟩ = _ from fun fn hr hg => by
 have t0 := tset_self ht
 have t1 := fun a => tat_tset_self (a := a) ht
 have t2 := fun a b => tset_tset (a := a) (b := b) ht
 simp [code, Tryz.f54, hr, hg]
 refine (loop_to (s0 := ?s5) (fun i => l.length - i) (fun i => [(5, (iv ((i : Nat)))), (1, (iv (k + (mkAs (eAs (l.take i)) : Nat))))]) (fun i => [(0, .tree .io (tset rows π (rws eP (mEs (l.take i) k ++ l.drop i))))]) (fun i K => K [(5, (iv l.length)), (1, (iv (k + mkAs (eAs l))))] [(0, .tree .io (tset rows π (rws eP (mEs l k))))]) (fun i => i ≤ l.length) 0 ?hc5 ?h05 ?hs5 ?step5).trans ?r5
 case hc5 => simp; rfl
 case h05 => first | (simp; done) | (simp [*]; done) | exact ⟨by simp, ⟨rfl⟩⟩ | grind | (simp; omega)
 case hs5 => first | (simp; done) | (simp [*]; done)
 case r5 => simp [hg, hr]
 intro n i hi ih
 simp [hg]
 (first | refine ifL_cases (fun h => ?_) (fun h => ?_) | refine gI_cases' (fun h => ?_) (fun h => ?_) | refine gI_cases (fun h => ?_) (fun h => ?_) | refine dI_cases' (fun h => ?_) (fun h => ?_) | refine dI_cases (fun h => ?_) (fun h => ?_)) <;> first | replace h := of_decide_eq_true h | replace h := of_decide_eq_false h | skip
 · have hlt := h
   have e1 : mkAs (eAs (l.take (i + 1))) = mkAs (eAs (l.take i)) + mkA (eA l[i]) := by
    rw [eAs_take, eAs_take, mkAs_at (by simpa using hlt), eAs_at]
   have e2 : mkAs (eAs (l.take (i + 1))) ≤ mkAs (eAs l) := by rw [eAs_take]; exact mkAs_le _ _
   have e3 : mkA (eA l[i]) = 4 + l[i].addr.length + l[i].val.s.length + mkBs l[i].val.k + mkVs l[i].val.l + mkBs l[i].deps := rfl
   have ha := h2 _ (List.getElem_mem hlt)
   have hv : VLen l[i].val := ha.vl
   have hd : l[i].deps.length ≤ 1048576 := ha.dl.1
   have e4 : (rws eP (mEs (l.take i) k ++ l.drop i))[i]? = some [.sc (.int .i64 (l[i].kind)), .sl (nums .u8 (l[i].addr)), .sc (.int .i64 (l[i].act)), .sc (.int .i64 (l[i].val.kind)), .sc (.int .i64 (l[i].val.n)), .sl (nums .u8 (l[i].val.s)), .sl (rws byP (l[i].val.k)), .sl (rws vP (l[i].val.l)), .sl (rws byP (l[i].deps))] := by rw [rws_here eP (by simp [hg]; omega) hlt, eP_eq]
   have e5 : (rws eP (mEs (l.take i) k ++ l.drop i)).set i (eP (mE l[i] (k + mkAs (eAs (l.take i))))) = rws eP (mEs (l.take (i + 1)) k ++ l.drop (i + 1)) := by
    rw [← mEs_set l k i hlt]
    exact rws_set _ _ _ _
   rw [eP_mE] at e5
   generalize rws eP (mEs (l.take i) k ++ l.drop i) = Y at e4 e5
   have hY : i < Y.length := (List.getElem?_eq_some_iff.1 e4).1
   have g1 := fun r => List.getElem?_set_self (a := r) hY
   obtain ⟨K, hK⟩ : ∃ K : Int, K = k + (mkAs (eAs (l.take i)) : Nat) := ⟨_, rfl⟩
   rw [← hK] at e5
   have c1 := at_cell (i := i) (j := 1) (r := [.sc (.int .i64 (K)), .sl (nums .u8 (l[i].addr)), .sc (.int .i64 (l[i].act)), .sc (.int .i64 (l[i].val.kind)), .sc (.int .i64 (l[i].val.n)), .sl (nums .u8 (l[i].val.s)), .sl (rws byP (l[i].val.k)), .sl (rws vP (l[i].val.l)), .sl (rws byP (l[i].deps))]) ht hY rfl
   have q1 := p13_t _ _ l[i].addr (K + 1) c1.1 (by omega) (by omega)
   rw [c1.2] at q1
   simp only [List.set_cons_succ, List.set_cons_zero] at q1
   have c2 := at_cell (i := i) (j := 5) (r := [.sc (.int .i64 (K)), .sl (nums .u8 (mkL l[i].addr.length (K + 1))), .sc (.int .i64 (K + 1 + l[i].addr.length)), .sc (.int .i64 (K + 1 + l[i].addr.length + 1)), .sc (.int .i64 (K + 1 + l[i].addr.length + 1 + 1)), .sl (nums .u8 (l[i].val.s)), .sl (rws byP (l[i].val.k)), .sl (rws vP (l[i].val.l)), .sl (rws byP (l[i].deps))]) ht hY rfl
   have q2 := p13_t _ _ l[i].val.s (K + 1 + l[i].addr.length + 1 + 1 + 1) c2.1 (by omega) (by omega)
   rw [c2.2] at q2
   simp only [List.set_cons_succ, List.set_cons_zero] at q2
   have c3 := at_cell (i := i) (j := 6) (r := [.sc (.int .i64 (K)), .sl (nums .u8 (mkL l[i].addr.length (K + 1))), .sc (.int .i64 (K + 1 + l[i].addr.length)), .sc (.int .i64 (K + 1 + l[i].addr.length + 1)), .sc (.int .i64 (K + 1 + l[i].addr.length + 1 + 1)), .sl (nums .u8 (mkL l[i].val.s.length (K + 1 + l[i].addr.length + 1 + 1 + 1))), .sl (rws byP (l[i].val.k)), .sl (rws vP (l[i].val.l)), .sl (rws byP (l[i].deps))]) ht hY rfl
   have q3 := p75_t _ _ l[i].val.k (K + 1 + l[i].addr.length + 1 + 1 + 1 + l[i].val.s.length) c3.1 (by omega) (by omega) (by have := hv.here.2.1.1; omega)
   rw [c3.2] at q3
   simp only [List.set_cons_succ, List.set_cons_zero] at q3
   have c4 := at_cell (i := i) (j := 7) (r := [.sc (.int .i64 (K)), .sl (nums .u8 (mkL l[i].addr.length (K + 1))), .sc (.int .i64 (K + 1 + l[i].addr.length)), .sc (.int .i64 (K + 1 + l[i].addr.length + 1)), .sc (.int .i64 (K + 1 + l[i].addr.length + 1 + 1)), .sl (nums .u8 (mkL l[i].val.s.length (K + 1 + l[i].addr.length + 1 + 1 + 1))), .sl (rws byP (mBB l[i].val.k (K + 1 + l[i].addr.length + 1 + 1 + 1 + l[i].val.s.length))), .sl (rws vP (l[i].val.l)), .sl (rws byP (l[i].deps))]) ht hY rfl
   have q4 := pMarkVt l[i].val hv _ _ (K + 1 + l[i].addr.length + 1 + 1 + 1 + l[i].val.s.length + mkBs l[i].val.k) c4.1 (by omega) (by omega)
   rw [c4.2] at q4
   simp only [List.set_cons_succ, List.set_cons_zero] at q4
   have c5 := at_cell (i := i) (j := 8) (r := [.sc (.int .i64 (K)), .sl (nums .u8 (mkL l[i].addr.length (K + 1))), .sc (.int .i64 (K + 1 + l[i].addr.length)), .sc (.int .i64 (K + 1 + l[i].addr.length + 1)), .sc (.int .i64 (K + 1 + l[i].addr.length + 1 + 1)), .sl (nums .u8 (mkL l[i].val.s.length (K + 1 + l[i].addr.length + 1 + 1 + 1))), .sl (rws byP (mBB l[i].val.k (K + 1 + l[i].addr.length + 1 + 1 + 1 + l[i].val.s.length))), .sl (rws vP (mVs l[i].val.l (K + 1 + l[i].addr.length + 1 + 1 + 1 + l[i].val.s.length + mkBs l[i].val.k))), .sl (rws byP (l[i].deps))]) ht hY rfl
   have q5 := p75_t _ _ l[i].deps (K + 1 + l[i].addr.length + 1 + 1 + 1 + l[i].val.s.length + mkBs l[i].val.k + mkVs l[i].val.l) c5.1 (by omega) (by omega) (by omega)
   rw [c5.2] at q5
   simp only [List.set_cons_succ, List.set_cons_zero] at q5
   simp only [e5] at q5
   rw [← hK]
   simp [hg, hlt, t1, t2, e4, g1, hr, hg]
   try simp (disch := omega) only [wrap_id']
   simp [hg, hlt, t1, t2, g1, q1]
   try simp (disch := omega) only [wrap_id']
   simp [hg, hlt, t1, t2, g1, q2]
   try simp (disch := omega) only [wrap_id']
   simp [hg, hlt, t1, t2, g1, q3]
   try simp (disch := omega) only [wrap_id']
   simp [hg, hlt, t1, t2, g1, q4]
   try simp (disch := omega) only [wrap_id']
   simp [hg, hlt, t1, t2, g1, q5]
   try simp (disch := omega) only [wrap_id']
   refine (ih.out (i + 1) _ ?_ ?_ ?_).trans ?_
   · omega
   · omega
   · simp [hg, e1, e3]; omega
   · rfl
 · have e : i = l.length := by omega
   subst e
   simp [hg]
 ) Tryz.f54 Tryz.results54 gl54)
theorem p53_t (s : Sta) (k : Int) (h0 : 0 ≤ k) (h1 : k + s.pend.length + mkAs (nAs s.ents) ≤ 4611686018427387904) (h2 : ∀ x ∈ s.ents, ALen (nA x)) (hl : s.ents.length ≤ 1048576) : phi C0 (lim C0) 53 [.ag [(iv s.serial), (bv s.opn), .nr 0 [] 0 s.pend.length, (iv s.act), .nr 1 [] 0 s.ents.length], (iv k)] [(0, .tree .io (nums .u8 s.pend)), (1, .tree .io (rws nP s.ents))] = some ((iv (k + s.pend.length + mkAs (nAs s.ents))), [(0, .tree .io (nums .u8 (mkL s.pend.length k))), (1, .tree .io (rws nP (mNs s.ents (k + s.pend.length))))]) := call0 Tryz.func53 (by kernel_rfl) ((show ∀ fn : Func, fn.results = #[.tmp 4] → lim C0 53 fn [.c (code Tryz.f53)] ⟨_, _⟩ = _ from fun fn hr => by
 have q1 := p13_t (nums .u8 s.pend) [] s.pend k rfl (by omega) (by omega)
 have q2 := p97_t (rws nP s.ents) [] s.ents (k + s.pend.length) rfl (by omega) (by omega) h2 hl
 simp only [tset] at q1 q2
 simp [code, Tryz.f53, hr, q1, q2]
 ) Tryz.f53 Tryz.results53)
theorem p20_t (h : His) (k : Int) (h0 : 0 ≤ k) (h1 : k + h.base.pend.length + mkAs (nAs h.base.ents) + mkAs (eAs h.evs) ≤ 4611686018427387904) (h2 : ∀ x ∈ h.base.ents, ALen (nA x)) (hl : h.base.ents.length ≤ 1048576) (h3 : ∀ x ∈ h.evs, ALen (eA x)) (hel : h.evs.length ≤ 1048576) : phi C0 (lim C0) 20 [.ag [(iv h.base.serial), (bv h.base.opn), .nr 0 [] 0 h.base.pend.length, (iv h.base.act), .nr 1 [] 0 h.base.ents.length, .nr 2 [] 0 h.evs.length, (iv h.safe)], (iv k)] [(0, .tree .io (nums .u8 h.base.pend)), (1, .tree .io (rws nP h.base.ents)), (2, .tree .io (rws eP h.evs))] = some ((iv (k + h.base.pend.length + mkAs (nAs h.base.ents) + mkAs (eAs h.evs))), [(0, .tree .io (nums .u8 (mkL h.base.pend.length k))), (1, .tree .io (rws nP (mNs h.base.ents (k + h.base.pend.length)))), (2, .tree .io (rws eP (mEs h.evs (k + h.base.pend.length + mkAs (nAs h.base.ents)))))]) := call0 Tryz.func20 (by kernel_rfl) ((show ∀ fn : Func, fn.results = #[.tmp 4] → lim C0 20 fn [.c (code Tryz.f20)] ⟨_, _⟩ = _ from fun fn hr => by
 have q1 := p53_t h.base k (by omega) (by omega) h2 hl
 have q2 := p54_t (rws eP h.evs) [] h.evs (k + h.base.pend.length + mkAs (nAs h.base.ents)) rfl (by omega) (by omega) h3 hel
 simp only [tset] at q2
 simp [code, Tryz.f20, hr, q1, q2]
 ) Tryz.f20 Tryz.results20)
end Go.Proofs.YtgbfmdihmnpcdaaGreatDoor
