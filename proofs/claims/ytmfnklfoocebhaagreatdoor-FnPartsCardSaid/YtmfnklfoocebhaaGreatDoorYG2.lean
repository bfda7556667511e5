/- Graphs that are ok. -/
import Derived.Test.YtmfnklfoocebhaaGreatDoorYG1
namespace Go.Proofs.YtmfnklfoocebhaaGreatDoor
open Go Go.Pm Go.Proofs
set_option linter.unusedVariables false
set_option linter.unusedSimpArgs false
set_option maxRecDepth 100000
set_option maxHeartbeats 4000000
def edLess (a b : Ed) : Bool := decide (a.1 < b.1) || (decide (a.1 = b.1) && decide (a.2 < b.2))
def edIn (n : Int) (e : Ed) : Bool := decide (0 ≤ e.1) && decide (e.1 < n) && decide (0 ≤ e.2) && decide (e.2 < n)
def gChk (n : Int) : Option Ed → List Ed → Bool
  | _, [] => true
  | none, e :: l => edIn n e && gChk n (some e) l
  | some q, e :: l => edIn n e && edLess q e && gChk n (some e) l
def gOk (n : Int) (l : List Ed) : Bool := decide (0 ≤ n) && decide (n ≤ 20) && decide (l.length ≤ 400) && gChk n none l
def pre (l : List Ed) (i : Nat) : Option Ed := if i = 0 then none else l[i - 1]?
theorem gChk_at {n : Int} {l : List Ed} {i : Nat} (h : i < l.length) : gChk n (pre l i) (l.drop i) = (edIn n l[i] && (decide (i = 0) || edLess (l[i - 1]'(by omega)) l[i]) && gChk n (pre l (i + 1)) (l.drop (i + 1))) := by
  rw [drop_at h]
  have e1 : pre l (i + 1) = some l[i] := by simp [pre, h]
  by_cases hi : i = 0
  · subst hi; simp [pre, gChk, h]
  · have e2 : pre l i = some (l[i - 1]'(by omega)) := by simp [pre, hi, show i - 1 < l.length by omega]
    rw [e1, e2]; simp [gChk, hi]
theorem gChk_end {n : Int} {l : List Ed} {i : Nat} (h : ¬ i < l.length) (p : Option Ed) : gChk n p (l.drop i) = true := by rw [drop_end h]; cases p <;> rfl
theorem p143 (a b : Ed) : phi C0 (lim C0) 143 [edTV a, edTV b] [] = some ((.pv false (.sc (.bool (edLess a b)))), []) := call0 Tryz.func143 (by kernel_rfl) ((show ∀ fn : Func, fn.results = #[.tmp 4] → lim C0 143 fn [.c (code Tryz.f143)] ⟨_, _⟩ = _ from fun fn hr => by
  simp [code, Tryz.f143, hr]
  repeat' ((first | refine ifL_cases (fun h => ?_) (fun h => ?_) | refine gI_cases' (fun h => ?_) (fun h => ?_) | refine gI_cases (fun h => ?_) (fun h => ?_) | refine dI_cases' (fun h => ?_) (fun h => ?_) | refine dI_cases (fun h => ?_) (fun h => ?_)) <;> first | replace h := of_decide_eq_true h | replace h := of_decide_eq_false h | skip
           all_goals try simp [*])
  all_goals grind [edLess]
  ) Tryz.f143 Tryz.results143)
theorem p84 (a : Int) : phi C0 (lim C0) 84 [(.pv false (.sc (.int .i64 a)))] [] = some ((.pv false (.sc (.bool false))), []) := call0 Tryz.func84 (by kernel_rfl) ((show ∀ fn : Func, fn.results = #[.tmp 2] → lim C0 84 fn [.c (code Tryz.f84)] ⟨_, _⟩ = _ from fun fn hr => by
  simp [code, Tryz.f84, hr]
  ) Tryz.f84 Tryz.results84)
theorem p46 (a b : Int) : phi C0 (lim C0) 46 [(.pv false (.sc (.int .i64 a))), (.pv false (.sc (.int .i64 b)))] [] = some ((.pv false (.sc (.int .i64 (cmpI a b)))), []) := call0 Tryz.func46 (by kernel_rfl) ((show ∀ fn : Func, fn.results = #[.tmp 4] → lim C0 46 fn [.c (code Tryz.f46)] ⟨_, _⟩ = _ from fun fn hr => by
  simp [code, Tryz.f46, hr, p84]
  repeat' ((first | refine ifL_cases (fun h => ?_) (fun h => ?_) | refine gI_cases' (fun h => ?_) (fun h => ?_) | refine gI_cases (fun h => ?_) (fun h => ?_) | refine dI_cases' (fun h => ?_) (fun h => ?_) | refine dI_cases (fun h => ?_) (fun h => ?_)) <;> first | replace h := of_decide_eq_true h | replace h := of_decide_eq_false h | skip
           all_goals try simp [*])
  all_goals grind [cmpI]
  ) Tryz.f46 Tryz.results46)
theorem p45 (a b : Int) (c : Bool) : phi C0 (lim C0) 45 [.pv c (.sl (nums .i64 [a, b]))] [] = some ((.pv false (.sc (.int .i64 (if a = 0 then b else a)))), []) := call0 Tryz.func45 (by kernel_rfl) ((show ∀ fn : Func, fn.results = #[.tmp 2] → globs fn = [0, 8, 7, 9, 6, 3, 5, 14, 2] → lim C0 45 fn [.c (code Tryz.f45)] ⟨_, _⟩ = _ from fun fn hr hg => by
  simp [code, Tryz.f45, hr, hg]
  refine (loop_go (s0 := ?s1) (fun i => 2 - i) (fun i => [(8, (.pv false (.sc (.int .i64 ((i : Nat))))))]) (fun i => []) (fun i => some ((.pv false (.sc (.int .i64 (if i = 0 then (if a = 0 then b else a) else if i = 1 then b else 0)))), [])) (fun i => i ≤ 2) 0 ?hc1 ?h01 ?hs1 ?step1).trans ?r1
  case hc1 => simp; rfl
  case h01 => first | (simp; done) | (simp [*]; done) | exact ⟨by simp, ⟨rfl⟩⟩ | grind | (simp; omega)
  case hs1 => first | (simp; done) | (simp [*]; done)
  case r1 => simp [hg]
  intro i hi ih
  simp [hg]
  (first | refine ifL_cases (fun h => ?_) (fun h => ?_) | refine gI_cases' (fun h => ?_) (fun h => ?_) | refine gI_cases (fun h => ?_) (fun h => ?_) | refine dI_cases' (fun h => ?_) (fun h => ?_) | refine dI_cases (fun h => ?_) (fun h => ?_)) <;> first | replace h := of_decide_eq_true h | replace h := of_decide_eq_false h | skip
  · have h2 : i = 0 ∨ i = 1 := by omega
    rcases h2 with rfl | rfl <;> simp [hg]
    · repeat' ((first | refine ifL_cases (fun h => ?_) (fun h => ?_) | refine gI_cases' (fun h => ?_) (fun h => ?_) | refine gI_cases (fun h => ?_) (fun h => ?_) | refine dI_cases' (fun h => ?_) (fun h => ?_) | refine dI_cases (fun h => ?_) (fun h => ?_)) <;> first | replace h := of_decide_eq_true h | replace h := of_decide_eq_false h | skip
               all_goals try simp [*])
      all_goals first | (refine (ih.out (1) _ (by first | omega | grind) (by first | omega | (refine And.intro ?_ ?_; focus omega; (simp [*]; done)) | grind) (by first | (simp [*]; done) | (simp [*]; omega))).trans ?_; try simp [*]) | skip
      all_goals grind
    · repeat' ((first | refine ifL_cases (fun h => ?_) (fun h => ?_) | refine gI_cases' (fun h => ?_) (fun h => ?_) | refine gI_cases (fun h => ?_) (fun h => ?_) | refine dI_cases' (fun h => ?_) (fun h => ?_) | refine dI_cases (fun h => ?_) (fun h => ?_)) <;> first | replace h := of_decide_eq_true h | replace h := of_decide_eq_false h | skip
               all_goals try simp [*])
      all_goals first | (refine (ih.out (2) _ (by first | omega | grind) (by first | omega | (refine And.intro ?_ ?_; focus omega; (simp [*]; done)) | grind) (by first | (simp [*]; done) | (simp [*]; omega))).trans ?_; try simp [*]) | skip
      all_goals grind
  · have h2 : i = 2 := by omega
    subst h2
    simp [hg, hr]
  ) Tryz.f45 Tryz.results45 gl45)
theorem cmpE_ge (a b : Ed) : decide (0 ≤ cmpE a b) = !edLess a b := by
  unfold cmpE cmpI edLess
  grind
theorem p21 (a b : Ed) : phi C0 (lim C0) 21 [edTV a, edTV b] [] = some ((.pv false (.sc (.int .i64 (cmpE a b)))), []) := call0 Tryz.func21 (by kernel_rfl) ((show ∀ fn : Func, fn.results = #[.tmp 4] → lim C0 21 fn [.c (code Tryz.f21)] ⟨_, _⟩ = _ from fun fn hr => by
  have hp1 := plan21_1
  simp [opsOf, code, Tryz.f21] at hp1
  have p1 := p45 (cmpI a.1 b.1) (cmpI a.2 b.2) true
  simp [rws] at p1
  simp [code, Tryz.f21, hr, hp1, p46, p1, cmpE]
  ) Tryz.f21 Tryz.results21)
def edIn' (n : Int) (e : Ed) : Bool := decide (0 ≤ e.1) && decide (e.1 ≤ IntKind.i64.wrap (n - 1)) && decide (0 ≤ e.2) && decide (e.2 ≤ IntKind.i64.wrap (n - 1))
def gChk' (n : Int) : Option Ed → List Ed → Bool
  | _, [] => true
  | none, e :: l => edIn' n e && gChk' n (some e) l
  | some q, e :: l => edIn' n e && edLess q e && gChk' n (some e) l
theorem gChk_at' {n : Int} {l : List Ed} {i : Nat} (h : i < l.length) : gChk' n (pre l i) (l.drop i) = (edIn' n l[i] && (decide (i = 0) || edLess (l[i - 1]'(by omega)) l[i]) && gChk' n (pre l (i + 1)) (l.drop (i + 1))) := by
  rw [drop_at h]
  have e1 : pre l (i + 1) = some l[i] := by simp [pre, h]
  by_cases hi : i = 0
  · subst hi; simp [pre, gChk', h]
  · have e2 : pre l i = some (l[i - 1]'(by omega)) := by simp [pre, hi, show i - 1 < l.length by omega]
    rw [e1, e2]; simp [gChk', hi]
theorem gChk_end' {n : Int} {l : List Ed} {i : Nat} (h : ¬ i < l.length) (p : Option Ed) : gChk' n p (l.drop i) = true := by rw [drop_end h]; cases p <;> rfl
theorem gChk_eq {n : Int} (h : 0 ≤ n) (h' : n ≤ 20) : ∀ (l : List Ed) (p : Option Ed), gChk' n p l = gChk n p l
  | [], p => by cases p <;> rfl
  | e :: l, p => by
    have ih := gChk_eq h h' l (some e)
    have e1 : edIn' n e = edIn n e := by
      unfold edIn edIn'
      rw [wrap_id' (by omega)]
      grind
    cases p <;> simp [gChk, gChk', ih, e1]
theorem p10 (b : Bool) (n : Int) (l : List Ed) (hl : l.length ≤ 1048576) : phi C0 (lim C0) 10 [grTV b n l] [] = some ((.pv false (.sc (.bool (gOk n l)))), []) := call0 Tryz.func10 (by kernel_rfl) ((show ∀ fn : Func, fn.results = #[.tmp 2] → globs fn = [0, 1, 8, 7, 9, 6, 4, 3, 43, 2] → lim C0 10 fn [.c (code Tryz.f10)] ⟨_, _⟩ = _ from fun fn hr hg => by
  have hp4 := plan10_4
  simp [opsOf, code, Tryz.f10] at hp4
  have p1 := p21
  simp only [edTV] at p1
  simp [code, Tryz.f10, hr, hg, hp4]
  refine (loop_to (s0 := ?s2) (fun i => l.length - i) (fun i => [(8, (.pv false (.sc (.int .i64 ((i : Nat))))))]) (fun i => [(16, .box [(.pv false (.sc (.int .i64 n))), .pv b (.sl (eds l))])]) (fun i K => bif gChk' n (pre l i) (l.drop i) then K [(8, (.pv false (.sc (.int .i64 l.length))))] [(16, .box [(.pv false (.sc (.int .i64 n))), .pv b (.sl (eds l))])] else some ((.pv false (.sc (.bool false))), [])) (fun i => i ≤ l.length) 0 ?hc2 ?h02 ?hs2 ?step2).trans ?r2
  case hc2 => simp; rfl
  case h02 => first | (simp; done) | (simp [*]; done) | exact ⟨by simp, ⟨rfl⟩⟩ | grind | (simp; omega)
  case hs2 => first | (simp; done) | (simp [*]; done)
  case r2 =>
    have e := fun h h' => gChk_eq (n := n) h h' l none
    cases hc : gChk' n none l <;> simp [hg, hr, pre, p20, hc]
    · clear hp4
      grind [gOk]
    · repeat' ((first | refine ifL_cases (fun h => ?_) (fun h => ?_) | refine gI_cases' (fun h => ?_) (fun h => ?_) | refine gI_cases (fun h => ?_) (fun h => ?_) | refine dI_cases' (fun h => ?_) (fun h => ?_) | refine dI_cases (fun h => ?_) (fun h => ?_)) <;> first | replace h := of_decide_eq_true h | replace h := of_decide_eq_false h | skip
               all_goals try simp [*])
      all_goals clear hp4
      all_goals grind [gOk, inI]
  intro k i hi ih
  have hw : 0 < i → IntKind.i64.wrap ((i : Int) - 1) = ((i - 1 : Nat) : Int) := fun h => by rw [wrap_id'] <;> omega
  have hw2 : i < l.length → i - 1 < l.length := fun h => by omega
  have p2 := p20
  have p3 := cmpE_ge
  simp [hg]
  repeat' ((first | refine ifL_cases (fun h => ?_) (fun h => ?_) | refine gI_cases' (fun h => ?_) (fun h => ?_) | refine gI_cases (fun h => ?_) (fun h => ?_) | refine dI_cases' (fun h => ?_) (fun h => ?_) | refine dI_cases (fun h => ?_) (fun h => ?_)) <;> first | replace h := of_decide_eq_true h | replace h := of_decide_eq_false h | skip
           all_goals try simp [p1, p2, p3, *])
  all_goals try simp (disch := omega) only [wrap_id']
  all_goals first | (refine (ih.out (i + 1) _ (by first | omega | grind) (by first | omega | (refine And.intro ?_ ?_; focus omega; (simp [*]; done)) | grind) (by first | (simp [*]; done) | (simp [*]; omega))).trans ?_; try simp [*]) | skip
  all_goals clear hp4
  all_goals clear ih p1 p2 p3
  all_goals grind [gChk_at', gChk_end', edIn', inI]
  ) Tryz.f10 Tryz.results10 gl10)
end Go.Proofs.YtmfnklfoocebhaaGreatDoor
