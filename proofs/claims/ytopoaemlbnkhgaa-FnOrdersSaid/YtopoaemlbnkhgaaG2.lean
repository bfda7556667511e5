/- Graphs that are ok. -/
import Derived.Test.YtopoaemlbnkhgaaG1
namespace Go.Proofs.Ytopoaemlbnkhgaa
open Go Go.Pm Go.Proofs
set_option linter.unusedVariables false
set_option linter.unusedSimpArgs false
def edLess (a b : Ed) : Bool := decide (a.1 < b.1) || (decide (a.1 = b.1) && decide (a.2 < b.2))
def edIn (n : Int) (e : Ed) : Bool := decide (0 ≤ e.1) && decide (e.1 < n) && decide (0 ≤ e.2) && decide (e.2 < n)
def gChk (n : Int) : Option Ed → List Ed → Bool
  | _, [] => true
  | none, e :: l => edIn n e && gChk n (some e) l
  | some q, e :: l => edIn n e && edLess q e && gChk n (some e) l
def gOk (n : Int) (l : List Ed) : Bool := decide (0 ≤ n) && decide (n ≤ 20) && decide (l.length ≤ 400) && gChk n none l
def pre (l : List Ed) (i : Nat) : Option Ed := if i = 0 then none else l[i - 1]?
theorem gChk_at {n : Int} {l : List Ed} {i : Nat} (h : i < l.length) : gChk n (pre l i) (l.drop i) = (edIn n l[i] && (decide (i = 0) || edLess (l[i - 1]'(by omega)) l[i]) && gChk n (pre l (i + 1)) (l.drop (i + 1))) := by
  rw [drop_at h]
  have e1 : pre l (i + 1) = some l[i] := by simp [pre, h]
  by_cases hi : i = 0
  · subst hi; simp [pre, gChk, h]
  · have e2 : pre l i = some (l[i - 1]'(by omega)) := by simp [pre, hi, show i - 1 < l.length by omega]
    rw [e1, e2]; simp [gChk, hi]
theorem gChk_end {n : Int} {l : List Ed} {i : Nat} (h : ¬ i < l.length) (p : Option Ed) : gChk n p (l.drop i) = true := by rw [drop_end h]; cases p <;> rfl
set_option maxRecDepth 100000 in
set_option maxHeartbeats 4000000 in
theorem e79 (fn : Func) (hr : fn.results = #[.tmp 4]) (a b : Ed) : lim C0 79 fn [.c (code Try.f79)] ⟨number [edTV a, edTV b] 0, []⟩ = some ((.pv false (.sc (.bool (edLess a b)))), []) := by
  simp [code, Try.f79, hr]
  repeat' ((first | refine ifL_cases (fun h => ?_) (fun h => ?_) | refine gI_cases' (fun h => ?_) (fun h => ?_) | refine gI_cases (fun h => ?_) (fun h => ?_) | refine dI_cases' (fun h => ?_) (fun h => ?_) | refine dI_cases (fun h => ?_) (fun h => ?_)) <;> first | replace h := of_decide_eq_true h | replace h := of_decide_eq_false h | skip
           all_goals try simp [*])
  all_goals grind [edLess]
theorem p79 (a b : Ed) : phi C0 (lim C0) 79 [edTV a, edTV b] [] = some ((.pv false (.sc (.bool (edLess a b)))), []) := call0 Try.func79 (by kernel_rfl) (e79 Try.f79 Try.results79 a b)
set_option maxRecDepth 100000 in
set_option maxHeartbeats 4000000 in
theorem e45 (fn : Func) (hr : fn.results = #[.tmp 2]) (b : Bool) (n : Int) (l : List Ed) (hl : l.length ≤ 1048576) : lim C0 45 fn [.c (code Try.f45)] ⟨number [grTV b n l] 0, []⟩ = some ((.pv false (.sc (.bool (gOk n l)))), []) := by
  have hp7 := plan45_7
  simp [opsOf, code, Try.f45] at hp7
  have p1 := p79
  simp only [edTV] at p1
  simp [code, Try.f45, hr, hp7]
  repeat' ((first | refine ifL_cases (fun h => ?_) (fun h => ?_) | refine gI_cases' (fun h => ?_) (fun h => ?_) | refine gI_cases (fun h => ?_) (fun h => ?_) | refine dI_cases' (fun h => ?_) (fun h => ?_) | refine dI_cases (fun h => ?_) (fun h => ?_)) <;> first | replace h := of_decide_eq_true h | replace h := of_decide_eq_false h | skip
           all_goals try simp [*])
  all_goals try grind [gOk]
  refine (loop_to (s0 := ?s1) (fun i => l.length - i) (fun i => [(3, (.pv false (.sc (.int .i64 ((i : Nat))))))]) (fun i => [(16, .box [(.pv false (.sc (.int .i64 n))), .pv b (.sl (eds l))])]) (fun i K => bif gChk n (pre l i) (l.drop i) then K [(3, (.pv false (.sc (.int .i64 l.length))))] [(16, .box [(.pv false (.sc (.int .i64 n))), .pv b (.sl (eds l))])] else some ((.pv false (.sc (.bool false))), [])) (fun i => i ≤ l.length) 0 ?hc1 ?h01 ?hs1 ?step1).trans ?r1
  case hc1 => simp; rfl
  case h01 => first | (simp; done) | (simp [*]; done) | exact ⟨by simp, ⟨rfl⟩⟩ | grind | (simp; omega)
  case hs1 => first | (simp; done) | (simp [*]; done)
  case r1 =>
    simp [hr, pre]
    grind [gOk]
  intro k i hi ih
  have hw : 0 < i → IntKind.i64.wrap ((i : Int) - 1) = ((i - 1 : Nat) : Int) := fun h => by rw [wrap_id'] <;> omega
  have hw2 : i < l.length → i - 1 < l.length := fun h => by omega
  simp
  repeat' ((first | refine ifL_cases (fun h => ?_) (fun h => ?_) | refine gI_cases' (fun h => ?_) (fun h => ?_) | refine gI_cases (fun h => ?_) (fun h => ?_) | refine dI_cases' (fun h => ?_) (fun h => ?_) | refine dI_cases (fun h => ?_) (fun h => ?_)) <;> first | replace h := of_decide_eq_true h | replace h := of_decide_eq_false h | skip
           all_goals try simp [p1, *])
  all_goals try simp (disch := omega) only [wrap_id']
  all_goals first | (refine (ih.out (i + 1) _ (by first | omega | grind) (by first | omega | (refine And.intro ?_ ?_; focus omega; (simp [*]; done)) | grind) (by first | (simp [*]; done) | (simp [*]; omega))).trans ?_; try simp [*]) | skip
  all_goals clear ih
  all_goals grind [gChk_at, gChk_end, edIn]
theorem p45 (b : Bool) (n : Int) (l : List Ed) (hl : l.length ≤ 1048576) : phi C0 (lim C0) 45 [grTV b n l] [] = some ((.pv false (.sc (.bool (gOk n l)))), []) := call0 Try.func45 (by kernel_rfl) (e45 Try.f45 Try.results45 b n l hl)
set_option maxRecDepth 100000 in
set_option maxHeartbeats 4000000 in
theorem e108 (fn : Func) (hr : fn.results = #[.tmp 2]) (a : Int) : lim C0 108 fn [.c (code Try.f108)] ⟨number [(.pv false (.sc (.int .i64 a)))] 0, []⟩ = some ((.pv false (.sc (.bool false))), []) := by
  simp [code, Try.f108, hr]
theorem p108 (a : Int) : phi C0 (lim C0) 108 [(.pv false (.sc (.int .i64 a)))] [] = some ((.pv false (.sc (.bool false))), []) := call0 Try.func108 (by kernel_rfl) (e108 Try.f108 Try.results108 a)
set_option maxRecDepth 100000 in
set_option maxHeartbeats 4000000 in
theorem e91 (fn : Func) (hr : fn.results = #[.tmp 4]) (a b : Int) : lim C0 91 fn [.c (code Try.f91)] ⟨number [(.pv false (.sc (.int .i64 a))), (.pv false (.sc (.int .i64 b)))] 0, []⟩ = some ((.pv false (.sc (.int .i64 (cmpI a b)))), []) := by
  simp [code, Try.f91, hr, p108]
  repeat' ((first | refine ifL_cases (fun h => ?_) (fun h => ?_) | refine gI_cases' (fun h => ?_) (fun h => ?_) | refine gI_cases (fun h => ?_) (fun h => ?_) | refine dI_cases' (fun h => ?_) (fun h => ?_) | refine dI_cases (fun h => ?_) (fun h => ?_)) <;> first | replace h := of_decide_eq_true h | replace h := of_decide_eq_false h | skip
           all_goals try simp [*])
  all_goals grind [cmpI]
theorem p91 (a b : Int) : phi C0 (lim C0) 91 [(.pv false (.sc (.int .i64 a))), (.pv false (.sc (.int .i64 b)))] [] = some ((.pv false (.sc (.int .i64 (cmpI a b)))), []) := call0 Try.func91 (by kernel_rfl) (e91 Try.f91 Try.results91 a b)
set_option maxRecDepth 100000 in
set_option maxHeartbeats 4000000 in
theorem e90 (fn : Func) (hr : fn.results = #[.tmp 2]) (a b : Int) (c : Bool) : lim C0 90 fn [.c (code Try.f90)] ⟨number [.pv c (.sl (nums .i64 [a, b]))] 0, []⟩ = some ((.pv false (.sc (.int .i64 (if a = 0 then b else a)))), []) := by
  simp [code, Try.f90, hr]
  refine (loop_go (s0 := ?s2) (fun i => 2 - i) (fun i => [(8, (.pv false (.sc (.int .i64 ((i : Nat))))))]) (fun i => []) (fun i => some ((.pv false (.sc (.int .i64 (if i = 0 then (if a = 0 then b else a) else if i = 1 then b else 0)))), [])) (fun i => i ≤ 2) 0 ?hc2 ?h02 ?hs2 ?step2).trans ?r2
  case hc2 => simp; rfl
  case h02 => first | (simp; done) | (simp [*]; done) | exact ⟨by simp, ⟨rfl⟩⟩ | grind | (simp; omega)
  case hs2 => first | (simp; done) | (simp [*]; done)
  case r2 => simp
  intro i hi ih
  simp
  (first | refine ifL_cases (fun h => ?_) (fun h => ?_) | refine gI_cases' (fun h => ?_) (fun h => ?_) | refine gI_cases (fun h => ?_) (fun h => ?_) | refine dI_cases' (fun h => ?_) (fun h => ?_) | refine dI_cases (fun h => ?_) (fun h => ?_)) <;> first | replace h := of_decide_eq_true h | replace h := of_decide_eq_false h | skip
  · have h2 : i = 0 ∨ i = 1 := by omega
    rcases h2 with rfl | rfl <;> simp
    · repeat' ((first | refine ifL_cases (fun h => ?_) (fun h => ?_) | refine gI_cases' (fun h => ?_) (fun h => ?_) | refine gI_cases (fun h => ?_) (fun h => ?_) | refine dI_cases' (fun h => ?_) (fun h => ?_) | refine dI_cases (fun h => ?_) (fun h => ?_)) <;> first | replace h := of_decide_eq_true h | replace h := of_decide_eq_false h | skip
               all_goals try simp [*])
      all_goals first | (refine (ih.out (1) _ (by first | omega | grind) (by first | omega | (refine And.intro ?_ ?_; focus omega; (simp [*]; done)) | grind) (by first | (simp [*]; done) | (simp [*]; omega))).trans ?_; try simp [*]) | skip
      all_goals grind
    · repeat' ((first | refine ifL_cases (fun h => ?_) (fun h => ?_) | refine gI_cases' (fun h => ?_) (fun h => ?_) | refine gI_cases (fun h => ?_) (fun h => ?_) | refine dI_cases' (fun h => ?_) (fun h => ?_) | refine dI_cases (fun h => ?_) (fun h => ?_)) <;> first | replace h := of_decide_eq_true h | replace h := of_decide_eq_false h | skip
               all_goals try simp [*])
      all_goals first | (refine (ih.out (2) _ (by first | omega | grind) (by first | omega | (refine And.intro ?_ ?_; focus omega; (simp [*]; done)) | grind) (by first | (simp [*]; done) | (simp [*]; omega))).trans ?_; try simp [*]) | skip
      all_goals grind
  · have h2 : i = 2 := by omega
    subst h2
    simp [hr]
theorem p90 (a b : Int) (c : Bool) : phi C0 (lim C0) 90 [.pv c (.sl (nums .i64 [a, b]))] [] = some ((.pv false (.sc (.int .i64 (if a = 0 then b else a)))), []) := call0 Try.func90 (by kernel_rfl) (e90 Try.f90 Try.results90 a b c)
theorem cmpE_ge (a b : Ed) : decide (0 ≤ cmpE a b) = !edLess a b := by
  unfold cmpE cmpI edLess
  grind
set_option maxRecDepth 100000 in
set_option maxHeartbeats 4000000 in
theorem e72 (fn : Func) (hr : fn.results = #[.tmp 4]) (a b : Ed) : lim C0 72 fn [.c (code Try.f72)] ⟨number [edTV a, edTV b] 0, []⟩ = some ((.pv false (.sc (.int .i64 (cmpE a b)))), []) := by
  have hp1 := plan72_1
  simp [opsOf, code, Try.f72] at hp1
  have p1 := p90 (cmpI a.1 b.1) (cmpI a.2 b.2) true
  simp [rws] at p1
  simp [code, Try.f72, hr, hp1, p91, p1, cmpE]
theorem p72 (a b : Ed) : phi C0 (lim C0) 72 [edTV a, edTV b] [] = some ((.pv false (.sc (.int .i64 (cmpE a b)))), []) := call0 Try.func72 (by kernel_rfl) (e72 Try.f72 Try.results72 a b)
def edIn' (n : Int) (e : Ed) : Bool := decide (0 ≤ e.1) && decide (e.1 ≤ IntKind.i64.wrap (n - 1)) && decide (0 ≤ e.2) && decide (e.2 ≤ IntKind.i64.wrap (n - 1))
def gChk' (n : Int) : Option Ed → List Ed → Bool
  | _, [] => true
  | none, e :: l => edIn' n e && gChk' n (some e) l
  | some q, e :: l => edIn' n e && edLess q e && gChk' n (some e) l
theorem gChk_at' {n : Int} {l : List Ed} {i : Nat} (h : i < l.length) : gChk' n (pre l i) (l.drop i) = (edIn' n l[i] && (decide (i = 0) || edLess (l[i - 1]'(by omega)) l[i]) && gChk' n (pre l (i + 1)) (l.drop (i + 1))) := by
  rw [drop_at h]
  have e1 : pre l (i + 1) = some l[i] := by simp [pre, h]
  by_cases hi : i = 0
  · subst hi; simp [pre, gChk', h]
  · have e2 : pre l i = some (l[i - 1]'(by omega)) := by simp [pre, hi, show i - 1 < l.length by omega]
    rw [e1, e2]; simp [gChk', hi]
theorem gChk_end' {n : Int} {l : List Ed} {i : Nat} (h : ¬ i < l.length) (p : Option Ed) : gChk' n p (l.drop i) = true := by rw [drop_end h]; cases p <;> rfl
theorem gChk_eq {n : Int} (h : 0 ≤ n) (h' : n ≤ 20) : ∀ (l : List Ed) (p : Option Ed), gChk' n p l = gChk n p l
  | [], p => by cases p <;> rfl
  | e :: l, p => by
    have ih := gChk_eq h h' l (some e)
    have e1 : edIn' n e = edIn n e := by
      unfold edIn edIn'
      rw [wrap_id' (by omega)]
      grind
    cases p <;> simp [gChk, gChk', ih, e1]
set_option maxRecDepth 100000 in
set_option maxHeartbeats 4000000 in
theorem e59 (fn : Func) (hr : fn.results = #[.tmp 2]) (b : Bool) (n : Int) (l : List Ed) (hl : l.length ≤ 1048576) : lim C0 59 fn [.c (code Try.f59)] ⟨number [grTV b n l] 0, []⟩ = some ((.pv false (.sc (.bool (gOk n l)))), []) := by
  have hp4 := plan59_4
  simp [opsOf, code, Try.f59] at hp4
  have p1 := p72
  simp only [edTV] at p1
  simp [code, Try.f59, hr, hp4]
  refine (loop_to (s0 := ?s3) (fun i => l.length - i) (fun i => [(8, (.pv false (.sc (.int .i64 ((i : Nat))))))]) (fun i => [(16, .box [(.pv false (.sc (.int .i64 n))), .pv b (.sl (eds l))])]) (fun i K => bif gChk' n (pre l i) (l.drop i) then K [(8, (.pv false (.sc (.int .i64 l.length))))] [(16, .box [(.pv false (.sc (.int .i64 n))), .pv b (.sl (eds l))])] else some ((.pv false (.sc (.bool false))), [])) (fun i => i ≤ l.length) 0 ?hc3 ?h03 ?hs3 ?step3).trans ?r3
  case hc3 => simp; rfl
  case h03 => first | (simp; done) | (simp [*]; done) | exact ⟨by simp, ⟨rfl⟩⟩ | grind | (simp; omega)
  case hs3 => first | (simp; done) | (simp [*]; done)
  case r3 =>
    have e := fun h h' => gChk_eq (n := n) h h' l none
    cases hc : gChk' n none l <;> simp [hr, pre, p60, hc]
    · clear hp4
      grind [gOk]
    · repeat' ((first | refine ifL_cases (fun h => ?_) (fun h => ?_) | refine gI_cases' (fun h => ?_) (fun h => ?_) | refine gI_cases (fun h => ?_) (fun h => ?_) | refine dI_cases' (fun h => ?_) (fun h => ?_) | refine dI_cases (fun h => ?_) (fun h => ?_)) <;> first | replace h := of_decide_eq_true h | replace h := of_decide_eq_false h | skip
               all_goals try simp [*])
      all_goals clear hp4
      all_goals grind [gOk, inI]
  intro k i hi ih
  have hw : 0 < i → IntKind.i64.wrap ((i : Int) - 1) = ((i - 1 : Nat) : Int) := fun h => by rw [wrap_id'] <;> omega
  have hw2 : i < l.length → i - 1 < l.length := fun h => by omega
  have p2 := p60
  have p3 := cmpE_ge
  simp
  repeat' ((first | refine ifL_cases (fun h => ?_) (fun h => ?_) | refine gI_cases' (fun h => ?_) (fun h => ?_) | refine gI_cases (fun h => ?_) (fun h => ?_) | refine dI_cases' (fun h => ?_) (fun h => ?_) | refine dI_cases (fun h => ?_) (fun h => ?_)) <;> first | replace h := of_decide_eq_true h | replace h := of_decide_eq_false h | skip
           all_goals try simp [p1, p2, p3, *])
  all_goals try simp (disch := omega) only [wrap_id']
  all_goals first | (refine (ih.out (i + 1) _ (by first | omega | grind) (by first | omega | (refine And.intro ?_ ?_; focus omega; (simp [*]; done)) | grind) (by first | (simp [*]; done) | (simp [*]; omega))).trans ?_; try simp [*]) | skip
  all_goals clear hp4
  all_goals clear ih p1 p2 p3
  all_goals grind [gChk_at', gChk_end', edIn', inI]
theorem p59 (b : Bool) (n : Int) (l : List Ed) (hl : l.length ≤ 1048576) : phi C0 (lim C0) 59 [grTV b n l] [] = some ((.pv false (.sc (.bool (gOk n l)))), []) := call0 Try.func59 (by kernel_rfl) (e59 Try.f59 Try.results59 b n l hl)
end Go.Proofs.Ytopoaemlbnkhgaa
