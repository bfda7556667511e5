/- The program's Part; what the laws write over results. -/
import Derived.Test.YtopoaemlbnkhgaaG3
namespace Go.Proofs.Ytopoaemlbnkhgaa
open Go Go.Pm Go.Proofs
set_option linter.unusedVariables false
set_option linter.unusedSimpArgs false
/-- A row that is written over: the first i are told. -/
def ovr {α : Type} (f : α → List PV) (g : Nat → α) (l : List α) (i : Nat) : List (List PV) := rws f ((List.range i).map g ++ l.drop i)
section
variable {α : Type} (f : α → List PV) (g : Nat → α) (l : List α) (i : Nat)
@[simp] theorem ovr_len : (ovr f g l i).length = i + (l.length - i) := by simp [ovr]
@[simp] theorem ovr_zero : ovr f g l 0 = rws f l := by simp [ovr]
@[simp] theorem ovr_end : ovr f g l l.length = rws f ((List.range l.length).map g) := by simp [ovr]
@[simp] theorem ovr_get (h : i < l.length) (h' : i < (ovr f g l i).length) : (ovr f g l i)[i]'h' = f l[i] := by
  simp [ovr]
theorem ovr_set (h : i < l.length) : (ovr f g l i).set i (f (g i)) = ovr f g l (i + 1) := by
  unfold ovr
  rw [rws_set, List.set_append_right _ _ (by simp), List.range_succ, drop_at h]
  simp only [List.length_map, List.length_range, Nat.sub_self, List.set_cons_zero, List.map_append, List.map_cons, List.map_nil, List.append_assoc, List.cons_append, List.nil_append]
end
@[simp] theorem take_cnt {α : Type} (g : Nat → α) (n : Nat) : List.take n (List.map g (List.range n)) = List.map g (List.range n) := List.take_of_length_le (by simp)
def cntI (k : Int) (j : Nat) : Int := k + j
def cntE (k : Int) (j : Nat) : Ed := (k + 2 * j, k + 2 * j + 1)
set_option maxRecDepth 100000 in
set_option maxHeartbeats 4000000 in
theorem e34 (fn : Func) (hr : fn.results = #[.tmp 4]) (l : List Int) (k : Int) (h0 : 0 ≤ k) (h1 : k + l.length ≤ 4611686018427387904) : lim C0 34 fn [.c (code Try.f34)] ⟨number [.ref 0 0 l.length, (.pv false (.sc (.int .i64 k)))] 0, [(0, .row .io 3 1 (rws (numP .i64) l))]⟩ = some ((.pv false (.sc (.int .i64 (k + l.length)))), [(0, .row .io 3 1 (rws (numP .i64) ((List.range l.length).map (cntI k))))]) := by
  simp [code, Try.f34, hr]
  refine (loop_to (s0 := ?s1) (fun i => l.length - i) (fun i => [(1, (.pv false (.sc (.int .i64 (k + (i : Nat)))))), (5, (.pv false (.sc (.int .i64 ((i : Nat))))))]) (fun i => [(0, .row .io 3 1 (ovr (numP .i64) (cntI k) l i))]) (fun i K => K [(1, (.pv false (.sc (.int .i64 (k + l.length))))), (5, (.pv false (.sc (.int .i64 l.length))))] [(0, .row .io 3 1 (rws (numP .i64) ((List.range l.length).map (cntI k))))]) (fun i => i ≤ l.length) 0 ?hc1 ?h01 ?hs1 ?step1).trans ?r1
  case hc1 => simp; rfl
  case h01 => first | (simp; done) | (simp [*]; done) | exact ⟨by simp, ⟨rfl⟩⟩ | grind | (simp; omega)
  case hs1 => first | (simp; done) | (simp [*]; done)
  case r1 => simp [hr]
  intro k' i hi ih
  simp
  (first | refine ifL_cases (fun h => ?_) (fun h => ?_) | refine gI_cases' (fun h => ?_) (fun h => ?_) | refine gI_cases (fun h => ?_) (fun h => ?_) | refine dI_cases' (fun h => ?_) (fun h => ?_) | refine dI_cases (fun h => ?_) (fun h => ?_)) <;> first | replace h := of_decide_eq_true h | replace h := of_decide_eq_false h | skip
  · have e2 := ovr_set (numP .i64) (cntI k) l i h
    have e3 := ovr_get (numP .i64) (cntI k) l i h
    simp [cntI] at e2 e3
    simp [*]
    try simp (disch := omega) only [wrap_id']
    all_goals first | (refine (ih.out (i + 1) _ (by first | omega | grind) (by first | omega | (refine And.intro ?_ ?_; focus omega; (simp [*]; done)) | grind) (by first | (simp [*]; done) | (simp [*]; omega))).trans ?_; try simp [*]) | skip
  · have e : i = l.length := by omega
    subst e
    simp
theorem p34 (l : List Int) (k : Int) (h0 : 0 ≤ k) (h1 : k + l.length ≤ 4611686018427387904) : phi C0 (lim C0) 34 [.ref 0 0 l.length, (.pv false (.sc (.int .i64 k)))] [(0, .row .io 3 1 (rws (numP .i64) l))] = some ((.pv false (.sc (.int .i64 (k + l.length)))), [(0, .row .io 3 1 (rws (numP .i64) ((List.range l.length).map (cntI k))))]) := call0 Try.func34 (by kernel_rfl) (e34 Try.f34 Try.results34 l k h0 h1)
set_option maxRecDepth 100000 in
set_option maxHeartbeats 4000000 in
theorem e37 (fn : Func) (hr : fn.results = #[.tmp 4]) (b : Bool) (n : Nat) (k : Int) (h0 : 0 ≤ k) (h1 : k + n ≤ 4611686018427387904) : lim C0 37 fn [.c (code Try.f37)] ⟨number [.pv b (.sl (rws (numP .i64) ((List.range n).map (cntI k)))), (.pv false (.sc (.int .i64 k)))] 0, []⟩ = some ((.pv false (.sc (.int .i64 (k + n)))), []) := by
  simp [code, Try.f37, hr]
  refine (loop_to (s0 := ?s2) (fun i => n - i) (fun i => [(1, (.pv false (.sc (.int .i64 (k + (i : Nat)))))), (5, (.pv false (.sc (.int .i64 ((i : Nat))))))]) (fun i => []) (fun i K => K [(1, (.pv false (.sc (.int .i64 (k + n))))), (5, (.pv false (.sc (.int .i64 n))))] []) (fun i => i ≤ n) 0 ?hc2 ?h02 ?hs2 ?step2).trans ?r2
  case hc2 => simp; rfl
  case h02 => first | (simp; done) | (simp [*]; done) | exact ⟨by simp, ⟨rfl⟩⟩ | grind | (simp; omega)
  case hs2 => first | (simp; done) | (simp [*]; done)
  case r2 => simp [hr]
  intro k' i hi ih
  simp
  (first | refine ifL_cases (fun h => ?_) (fun h => ?_) | refine gI_cases' (fun h => ?_) (fun h => ?_) | refine gI_cases (fun h => ?_) (fun h => ?_) | refine dI_cases' (fun h => ?_) (fun h => ?_) | refine dI_cases (fun h => ?_) (fun h => ?_)) <;> first | replace h := of_decide_eq_true h | replace h := of_decide_eq_false h | skip
  · simp [*, cntI]
    try simp (disch := omega) only [wrap_id']
    try simp [*]
    try simp (disch := omega) only [wrap_id']
    all_goals first | (refine (ih.out (i + 1) _ (by first | omega | grind) (by first | omega | (refine And.intro ?_ ?_; focus omega; (simp [*]; done)) | grind) (by first | (simp [*]; done) | (simp [*]; omega))).trans ?_; try simp [*]) | skip
  · have e : i = n := by omega
    subst e
    simp
theorem p37 (b : Bool) (n : Nat) (k : Int) (h0 : 0 ≤ k) (h1 : k + n ≤ 4611686018427387904) : phi C0 (lim C0) 37 [.pv b (.sl (rws (numP .i64) ((List.range n).map (cntI k)))), (.pv false (.sc (.int .i64 k)))] [] = some ((.pv false (.sc (.int .i64 (k + n)))), []) := call0 Try.func37 (by kernel_rfl) (e37 Try.f37 Try.results37 b n k h0 h1)
set_option maxRecDepth 100000 in
set_option maxHeartbeats 4000000 in
theorem e67 (fn : Func) (hr : fn.results = #[.tmp 4]) (l : List Ed) (k : Int) (h0 : 0 ≤ k) (h1 : k + 2 * l.length ≤ 4611686018427387904) : lim C0 67 fn [.c (code Try.f67)] ⟨number [.ref 0 0 l.length, (.pv false (.sc (.int .i64 k)))] 0, [(0, .row .io 42 2 (rws edP l))]⟩ = some ((.pv false (.sc (.int .i64 (k + 2 * l.length)))), [(0, .row .io 42 2 (rws edP ((List.range l.length).map (cntE k))))]) := by
  simp [code, Try.f67, hr]
  refine (loop_to (s0 := ?s3) (fun i => l.length - i) (fun i => [(1, (.pv false (.sc (.int .i64 (k + 2 * (i : Nat)))))), (5, (.pv false (.sc (.int .i64 ((i : Nat))))))]) (fun i => [(0, .row .io 42 2 (ovr edP (cntE k) l i))]) (fun i K => K [(1, (.pv false (.sc (.int .i64 (k + 2 * l.length))))), (5, (.pv false (.sc (.int .i64 l.length))))] [(0, .row .io 42 2 (rws edP ((List.range l.length).map (cntE k))))]) (fun i => i ≤ l.length) 0 ?hc3 ?h03 ?hs3 ?step3).trans ?r3
  case hc3 => simp; rfl
  case h03 => first | (simp; done) | (simp [*]; done) | exact ⟨by simp, ⟨rfl⟩⟩ | grind | (simp; omega)
  case hs3 => first | (simp; done) | (simp [*]; done)
  case r3 => simp [hr]
  intro k' i hi ih
  simp
  (first | refine ifL_cases (fun h => ?_) (fun h => ?_) | refine gI_cases' (fun h => ?_) (fun h => ?_) | refine gI_cases (fun h => ?_) (fun h => ?_) | refine dI_cases' (fun h => ?_) (fun h => ?_) | refine dI_cases (fun h => ?_) (fun h => ?_)) <;> first | replace h := of_decide_eq_true h | replace h := of_decide_eq_false h | skip
  · have e2 := ovr_set edP (cntE k) l i h
    have e3 := ovr_get edP (cntE k) l i h
    simp [cntE] at e2 e3
    simp [*]
    try simp (disch := omega) only [wrap_id']
    all_goals first | (refine (ih.out (i + 1) _ (by first | omega | grind) (by first | omega | (refine And.intro ?_ ?_; focus omega; (simp [*]; done)) | grind) (by first | (simp [*]; done) | (simp [*]; omega))).trans ?_; try simp [*]) | skip
  · have e : i = l.length := by omega
    subst e
    simp
theorem p67 (l : List Ed) (k : Int) (h0 : 0 ≤ k) (h1 : k + 2 * l.length ≤ 4611686018427387904) : phi C0 (lim C0) 67 [.ref 0 0 l.length, (.pv false (.sc (.int .i64 k)))] [(0, .row .io 42 2 (rws edP l))] = some ((.pv false (.sc (.int .i64 (k + 2 * l.length)))), [(0, .row .io 42 2 (rws edP ((List.range l.length).map (cntE k))))]) := call0 Try.func67 (by kernel_rfl) (e67 Try.f67 Try.results67 l k h0 h1)
set_option maxRecDepth 100000 in
set_option maxHeartbeats 4000000 in
theorem e68 (fn : Func) (hr : fn.results = #[.tmp 4]) (b : Bool) (n : Nat) (k : Int) (h0 : 0 ≤ k) (h1 : k + 2 * n ≤ 4611686018427387904) : lim C0 68 fn [.c (code Try.f68)] ⟨number [.pv b (.sl (rws edP ((List.range n).map (cntE k)))), (.pv false (.sc (.int .i64 k)))] 0, []⟩ = some ((.pv false (.sc (.int .i64 (k + 2 * n)))), []) := by
  simp [code, Try.f68, hr]
  refine (loop_to (s0 := ?s4) (fun i => n - i) (fun i => [(1, (.pv false (.sc (.int .i64 (k + 2 * (i : Nat)))))), (5, (.pv false (.sc (.int .i64 ((i : Nat))))))]) (fun i => []) (fun i K => K [(1, (.pv false (.sc (.int .i64 (k + 2 * n))))), (5, (.pv false (.sc (.int .i64 n))))] []) (fun i => i ≤ n) 0 ?hc4 ?h04 ?hs4 ?step4).trans ?r4
  case hc4 => simp; rfl
  case h04 => first | (simp; done) | (simp [*]; done) | exact ⟨by simp, ⟨rfl⟩⟩ | grind | (simp; omega)
  case hs4 => first | (simp; done) | (simp [*]; done)
  case r4 => simp [hr]
  intro k' i hi ih
  simp
  (first | refine ifL_cases (fun h => ?_) (fun h => ?_) | refine gI_cases' (fun h => ?_) (fun h => ?_) | refine gI_cases (fun h => ?_) (fun h => ?_) | refine dI_cases' (fun h => ?_) (fun h => ?_) | refine dI_cases (fun h => ?_) (fun h => ?_)) <;> first | replace h := of_decide_eq_true h | replace h := of_decide_eq_false h | skip
  · simp [*, cntE]
    try simp (disch := omega) only [wrap_id']
    try simp [*]
    try simp (disch := omega) only [wrap_id']
    all_goals first | (refine (ih.out (i + 1) _ (by first | omega | grind) (by first | omega | (refine And.intro ?_ ?_; focus omega; (simp [*]; done)) | grind) (by first | (simp [*]; done) | (simp [*]; omega))).trans ?_; try simp [*]) | skip
  · have e : i = n := by omega
    subst e
    simp
theorem p68 (b : Bool) (n : Nat) (k : Int) (h0 : 0 ≤ k) (h1 : k + 2 * n ≤ 4611686018427387904) : phi C0 (lim C0) 68 [.pv b (.sl (rws edP ((List.range n).map (cntE k)))), (.pv false (.sc (.int .i64 k)))] [] = some ((.pv false (.sc (.int .i64 (k + 2 * n)))), []) := call0 Try.func68 (by kernel_rfl) (e68 Try.f68 Try.results68 b n k h0 h1)
set_option maxRecDepth 100000 in
set_option maxHeartbeats 4000000 in
theorem e33 (fn : Func) (hr : fn.results = #[.tmp 4]) (n : Int) (l : List Ed) (k : Int) (h0 : 0 ≤ k) (h1 : k + 2 * l.length ≤ 4611686018427387904) : lim C0 33 fn [.c (code Try.f33)] ⟨number [.ag [(.pv false (.sc (.int .i64 n))), .ref 0 0 l.length], (.pv false (.sc (.int .i64 k)))] 0, [(0, .row .io 42 2 (eds l))]⟩ = some ((.pv false (.sc (.int .i64 (k + 2 * l.length)))), [(0, .row .io 42 2 (eds ((List.range l.length).map (cntE k))))]) := by
  simp [code, Try.f33, hr, p67, h0, h1]
theorem p33 (n : Int) (l : List Ed) (k : Int) (h0 : 0 ≤ k) (h1 : k + 2 * l.length ≤ 4611686018427387904) : phi C0 (lim C0) 33 [.ag [(.pv false (.sc (.int .i64 n))), .ref 0 0 l.length], (.pv false (.sc (.int .i64 k)))] [(0, .row .io 42 2 (eds l))] = some ((.pv false (.sc (.int .i64 (k + 2 * l.length)))), [(0, .row .io 42 2 (eds ((List.range l.length).map (cntE k))))]) := call0 Try.func33 (by kernel_rfl) (e33 Try.f33 Try.results33 n l k h0 h1)
set_option maxRecDepth 100000 in
set_option maxHeartbeats 4000000 in
theorem e35 (fn : Func) (hr : fn.results = #[.tmp 4]) (b : Bool) (m : Int) (n : Nat) (k : Int) (h0 : 0 ≤ k) (h1 : k + 2 * n ≤ 4611686018427387904) : lim C0 35 fn [.c (code Try.f35)] ⟨number [grTV b m ((List.range n).map (cntE k)), (.pv false (.sc (.int .i64 k)))] 0, []⟩ = some ((.pv false (.sc (.int .i64 (k + 2 * n)))), []) := by
  simp [code, Try.f35, hr, p68, h0, h1]
  repeat' ((first | refine ifL_cases (fun h => ?_) (fun h => ?_) | refine gI_cases' (fun h => ?_) (fun h => ?_) | refine gI_cases (fun h => ?_) (fun h => ?_) | refine dI_cases' (fun h => ?_) (fun h => ?_) | refine dI_cases (fun h => ?_) (fun h => ?_)) <;> first | replace h := of_decide_eq_true h | replace h := of_decide_eq_false h | skip
           all_goals try simp [*])
  omega
theorem p35 (b : Bool) (m : Int) (n : Nat) (k : Int) (h0 : 0 ≤ k) (h1 : k + 2 * n ≤ 4611686018427387904) : phi C0 (lim C0) 35 [grTV b m ((List.range n).map (cntE k)), (.pv false (.sc (.int .i64 k)))] [] = some ((.pv false (.sc (.int .i64 (k + 2 * n)))), []) := call0 Try.func35 (by kernel_rfl) (e35 Try.f35 Try.results35 b m n k h0 h1)
set_option maxRecDepth 100000 in
set_option maxHeartbeats 4000000 in
theorem e31 (fn : Func) (hr : fn.results = #[.cell 4 34, .tmp 5]) (b b' : Bool) (n : Int) (l : List Ed) (p : List Int) (hl : l.length ≤ 1048576) (hp : p.length ≤ 1048576) : lim C0 31 fn [.c (code Try.f31)] ⟨number [grTV b n l, .pv b' (.sl (nums .i64 p))] 0, []⟩ = some (if gOk n l && decide (p.length ≤ 20) then (.tu [.ag [(.pv false (.sc (.int .i64 n))), .ref 16 0 (keepE p l).length], (.pv false (.sc (.bool true)))], [(16, .row .own 42 2 (eds (keepE p l)))]) else (.tu [.ag [(.pv false (.sc (.int .i64 0))), .ref 16 0 0], (.pv false (.sc (.bool false)))], [(16, .row .own 42 2 [])])) := by
  have p1 := p59
  simp only [grTV] at p1
  simp [code, Try.f31, hr, p1, hl]
  repeat' ((first | refine ifL_cases (fun h => ?_) (fun h => ?_) | refine gI_cases' (fun h => ?_) (fun h => ?_) | refine gI_cases (fun h => ?_) (fun h => ?_) | refine dI_cases' (fun h => ?_) (fun h => ?_) | refine dI_cases (fun h => ?_) (fun h => ?_)) <;> first | replace h := of_decide_eq_true h | replace h := of_decide_eq_false h | skip
           all_goals try simp [*])
  · omega
  refine (loop_to (s0 := ?s5) (fun x => l.length - x.1) (fun x => [(24, (.pv false (.sc (.int .i64 ((x.1 : Nat))))))]) (fun x => [(16, .box [(.pv false (.sc (.int .i64 n))), .pv b (.sl (eds l))]), (18, .box [(.pv false (.sc (.int .i64 0))), .nl]), (20, .box [(.pv false (.sc (.int .i64 n))), slT 22 x.2])] ++ slH 22 42 2 edP x.2) (fun x K => K [(24, (.pv false (.sc (.int .i64 l.length))))] ([(16, .box [(.pv false (.sc (.int .i64 n))), .pv b (.sl (eds l))]), (18, .box [(.pv false (.sc (.int .i64 0))), .nl]), (20, .box [(.pv false (.sc (.int .i64 n))), slT 22 (x.2 ++ keepE p (l.drop x.1))])] ++ slH 22 42 2 edP (x.2 ++ keepE p (l.drop x.1)))) (fun x => x.1 ≤ l.length ∧ x.2.length ≤ x.1) (0, []) ?hc5 ?h05 ?hs5 ?step5).trans ?r5
  case hc5 => simp; rfl
  case h05 => first | (simp; done) | (simp [*]; done) | exact ⟨by simp, ⟨rfl⟩⟩ | grind | (simp; omega)
  case hs5 => first | (simp; done) | (simp [*]; done)
  case r5 => cases hk : keepE p l <;> simp [hr, hk, show p.length ≤ 20 by omega]
  rintro k ⟨i, acc⟩ ⟨hi, ha⟩ ih
  have p2 := fun v => p66 b' p v hp
  have ka := fun h => keepE_at (p := p) (l := l) (i := i) h
  have kb := fun h => keepE_end (p := p) (l := l) (i := i) h
  have g1 : (acc.length + 1) * 16 ≤ Pm.roomBytes := by unfold Pm.roomBytes; simp at ha; omega
  have g2 : acc.length + 1 ≤ 9223372036854775807 := by simp at ha; omega
  simp at hi ha
  rcases acc with _ | ⟨a0, acc⟩
  all_goals simp
  all_goals simp at g1 g2 ha
  · repeat' ((first | refine ifL_cases (fun h => ?_) (fun h => ?_) | refine gI_cases' (fun h => ?_) (fun h => ?_) | refine gI_cases (fun h => ?_) (fun h => ?_) | refine dI_cases' (fun h => ?_) (fun h => ?_) | refine dI_cases (fun h => ?_) (fun h => ?_)) <;> first | replace h := of_decide_eq_true h | replace h := of_decide_eq_false h | skip
             all_goals try simp [p2, *])
    all_goals try simp (disch := omega) only [wrap_id']
    all_goals first | (refine (ih.out ((i + 1, [l[i]])) _ (by first | omega | grind) (by first | omega | (refine And.intro ?_ ?_; focus omega; (simp [*]; done)) | grind) (by first | (simp [*]; done) | (simp [*]; omega))).trans ?_; try simp [*]) | skip
    all_goals first | (refine (ih.out ((i + 1, [])) _ (by first | omega | grind) (by first | omega | (refine And.intro ?_ ?_; focus omega; (simp [*]; done)) | grind) (by first | (simp [*]; done) | (simp [*]; omega))).trans ?_; try simp [*]) | skip
    all_goals skip
    all_goals clear ih p1
    all_goals grind
  · repeat' ((first | refine ifL_cases (fun h => ?_) (fun h => ?_) | refine gI_cases' (fun h => ?_) (fun h => ?_) | refine gI_cases (fun h => ?_) (fun h => ?_) | refine dI_cases' (fun h => ?_) (fun h => ?_) | refine dI_cases (fun h => ?_) (fun h => ?_)) <;> first | replace h := of_decide_eq_true h | replace h := of_decide_eq_false h | skip
             all_goals try simp [p2, *])
    all_goals try simp (disch := omega) only [wrap_id']
    all_goals first | (refine (ih.out ((i + 1, a0 :: (acc ++ [l[i]]))) _ (by first | omega | grind) (by first | omega | (refine And.intro ?_ ?_; focus omega; (simp [*]; done)) | grind) (by first | (simp [*]; done) | (simp [*]; omega))).trans ?_; try simp [*]) | skip
    all_goals first | (refine (ih.out ((i + 1, a0 :: acc)) _ (by first | omega | grind) (by first | omega | (refine And.intro ?_ ?_; focus omega; (simp [*]; done)) | grind) (by first | (simp [*]; done) | (simp [*]; omega))).trans ?_; try simp [*]) | skip
    all_goals skip
    all_goals clear ih p1
    all_goals grind
theorem p31 (b b' : Bool) (n : Int) (l : List Ed) (p : List Int) (hl : l.length ≤ 1048576) (hp : p.length ≤ 1048576) : phi C0 (lim C0) 31 [grTV b n l, .pv b' (.sl (nums .i64 p))] [] = some (if gOk n l && decide (p.length ≤ 20) then (.tu [.ag [(.pv false (.sc (.int .i64 n))), .ref 16 0 (keepE p l).length], (.pv false (.sc (.bool true)))], [(16, .row .own 42 2 (eds (keepE p l)))]) else (.tu [.ag [(.pv false (.sc (.int .i64 0))), .ref 16 0 0], (.pv false (.sc (.bool false)))], [(16, .row .own 42 2 [])])) := call0 Try.func31 (by kernel_rfl) (e31 Try.f31 Try.results31 b b' n l p hl hp)
end Go.Proofs.Ytopoaemlbnkhgaa
