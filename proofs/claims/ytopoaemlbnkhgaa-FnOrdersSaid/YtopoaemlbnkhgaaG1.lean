/- What the laws' helpers do with graphs. -/
import Derived.Test.YtopoaemlbnkhgaaA1
namespace Go.Proofs.Ytopoaemlbnkhgaa
open Go Go.Pm Go.Proofs
set_option linter.unusedVariables false
set_option linter.unusedSimpArgs false
attribute [simp] edP
abbrev eds (l : List Ed) : List (List PV) := rws edP l
@[simp] theorem edP_all (l : List Ed) : ∀ r ∈ eds l, r.length = 2 := rws_all edP l fun _ => rfl
@[simp] theorem edP_snoc (l : List Ed) (a b : Int) : eds l ++ [[.sc (.int .i64 a), .sc (.int .i64 b)]] = eds (l ++ [(a, b)]) := by simp [rws]
def edTV (e : Ed) : TV := .ag [(.pv false (.sc (.int .i64 e.1))), (.pv false (.sc (.int .i64 e.2)))]
attribute [simp] edTV
/-- A graph, its edges being read. -/
def grTV (b : Bool) (n : Int) (l : List Ed) : TV := .ag [(.pv false (.sc (.int .i64 n))), .pv b (.sl (eds l))]
attribute [simp] grTV
set_option maxRecDepth 100000 in
set_option maxHeartbeats 4000000 in
theorem e61 (fn : Func) (hr : fn.results = #[.tmp 4]) (b b' : Bool) (l : List (List PV)) (left : Int) (h0 : 0 ≤ left) (h1 : left ≤ 1048576) (hl : l.length ≤ 9223372036854775807) : lim C0 61 fn [.c (code Try.f61)] ⟨number [.pv b (.sl l), .pv b' (.sc (.int .i64 left))] 0, []⟩ = some ((.pv false (.sc (.int .i64 (szL l.length left)))), []) := by
  have hw : IntKind.i64.wrap (left - (l.length : Int)) = left - l.length := wrap_id' (by omega)
  simp [code, Try.f61, hr, hw]
  repeat' ((first | refine ifL_cases (fun h => ?_) (fun h => ?_) | refine gI_cases' (fun h => ?_) (fun h => ?_) | refine gI_cases (fun h => ?_) (fun h => ?_) | refine dI_cases' (fun h => ?_) (fun h => ?_) | refine dI_cases (fun h => ?_) (fun h => ?_)) <;> first | replace h := of_decide_eq_true h | replace h := of_decide_eq_false h | skip
           all_goals try simp [*])
  all_goals grind [szL]
theorem p61 (b b' : Bool) (l : List (List PV)) (left : Int) (h0 : 0 ≤ left) (h1 : left ≤ 1048576) (hl : l.length ≤ 9223372036854775807) : phi C0 (lim C0) 61 [.pv b (.sl l), .pv b' (.sc (.int .i64 left))] [] = some ((.pv false (.sc (.int .i64 (szL l.length left)))), []) := call0 Try.func61 (by kernel_rfl) (e61 Try.f61 Try.results61 b b' l left h0 h1 hl)
set_option maxRecDepth 100000 in
set_option maxHeartbeats 4000000 in
theorem e24 (fn : Func) (hr : fn.results = #[.tmp 4]) (b b' : Bool) (n : Int) (l : List Ed) (left : Int) (h0 : 0 ≤ left) (h1 : left ≤ 1048576) (hl : l.length ≤ 9223372036854775807) : lim C0 24 fn [.c (code Try.f24)] ⟨number [grTV b n l, .pv b' (.sc (.int .i64 left))] 0, []⟩ = some ((.pv false (.sc (.int .i64 (szL l.length left)))), []) := by
  simp [code, Try.f24, hr, p61, h0, h1, hl]
  repeat' ((first | refine ifL_cases (fun h => ?_) (fun h => ?_) | refine gI_cases' (fun h => ?_) (fun h => ?_) | refine gI_cases (fun h => ?_) (fun h => ?_) | refine dI_cases' (fun h => ?_) (fun h => ?_) | refine dI_cases (fun h => ?_) (fun h => ?_)) <;> first | replace h := of_decide_eq_true h | replace h := of_decide_eq_false h | skip
           all_goals try simp [*])
  all_goals grind [szL]
theorem p24 (b b' : Bool) (n : Int) (l : List Ed) (left : Int) (h0 : 0 ≤ left) (h1 : left ≤ 1048576) (hl : l.length ≤ 9223372036854775807) : phi C0 (lim C0) 24 [grTV b n l, .pv b' (.sc (.int .i64 left))] [] = some ((.pv false (.sc (.int .i64 (szL l.length left)))), []) := call0 Try.func24 (by kernel_rfl) (e24 Try.f24 Try.results24 b b' n l left h0 h1 hl)
set_option maxRecDepth 100000 in
set_option maxHeartbeats 4000000 in
theorem e85 (fn : Func) (hr : fn.results = #[.cell 2 42]) (e : Ed) : lim C0 85 fn [.c (code Try.f85)] ⟨number [edTV e] 0, []⟩ = some (edTV e, []) := by
  simp [code, Try.f85, hr]
theorem p85 (e : Ed) : phi C0 (lim C0) 85 [edTV e] [] = some (edTV e, []) := call0 Try.func85 (by kernel_rfl) (e85 Try.f85 Try.results85 e)
set_option maxRecDepth 100000 in
set_option maxHeartbeats 4000000 in
theorem e63 (fn : Func) (hr : fn.results = #[.tmp 2]) (b : Bool) (l : List Ed) (hl : l.length ≤ 1048576) : lim C0 63 fn [.c (code Try.f63)] ⟨number [.pv b (.sl (eds l))] 0, []⟩ = some (.ref 16 0 l.length, [(16, .row .own 42 2 (eds l))]) := by
  have g1 : l.length * 16 ≤ Pm.roomBytes := by unfold Pm.roomBytes; omega
  have g2 : (l.length : Int) ≤ 9223372036854775807 := by omega
  simp [code, Try.f63, hr, g1, g2]
  refine (loop_to (s0 := ?s0) (fun i => l.length - i) (fun i => [(4, (.pv false (.sc (.int .i64 ((i : Nat))))))]) (fun i => [(16, .row .own 42 2 (fillS edP [.sc (.int .i64 0), .sc (.int .i64 0)] l i))]) (fun i K => K [(4, (.pv false (.sc (.int .i64 l.length))))] [(16, .row .own 42 2 (eds l))]) (fun i => i ≤ l.length) 0 ?hc ?h0 ?hs ?step).trans ?r
  case hc => simp; rfl
  case h0 => simp
  case hs => simp
  case r => simp [hr]
  intro k i hi ih
  simp
  (first | refine ifL_cases (fun h => ?_) (fun h => ?_) | refine gI_cases' (fun h => ?_) (fun h => ?_) | refine gI_cases (fun h => ?_) (fun h => ?_) | refine dI_cases' (fun h => ?_) (fun h => ?_) | refine dI_cases (fun h => ?_) (fun h => ?_)) <;> first | replace h := of_decide_eq_true h | replace h := of_decide_eq_false h | skip
  · have e2 := fillS_set edP [.sc (.int .i64 0), .sc (.int .i64 0)] l i h
    have p1 := p85 l[i]
    simp only [edP] at e2
    simp only [edTV] at p1
    simp [*]
    try simp (disch := omega) only [wrap_id']
    first | (refine (ih.out (i + 1) _ (by first | omega | grind) (by first | omega | (refine And.intro ?_ ?_; focus omega; (simp [*]; done)) | grind) (by first | (simp [*]; done) | (simp [*]; omega))).trans ?_; try simp [*]) | skip
  · have e : i = l.length := by omega
    subst e
    simp
theorem p63 (b : Bool) (l : List Ed) (hl : l.length ≤ 1048576) : phi C0 (lim C0) 63 [.pv b (.sl (eds l))] [] = some (.ref 16 0 l.length, [(16, .row .own 42 2 (eds l))]) := call0 Try.func63 (by kernel_rfl) (e63 Try.f63 Try.results63 b l hl)
set_option maxRecDepth 100000 in
set_option maxHeartbeats 4000000 in
theorem e26 (fn : Func) (hr : fn.results = #[.cell 2 34]) (b : Bool) (n : Int) (l : List Ed) (hl : l.length ≤ 1048576) : lim C0 26 fn [.c (code Try.f26)] ⟨number [grTV b n l] 0, []⟩ = some (.ag [(.pv false (.sc (.int .i64 n))), .ref 16 0 l.length], [(16, .row .own 42 2 (eds l))]) := by
  simp [code, Try.f26, hr, p63, hl]
theorem p26 (b : Bool) (n : Int) (l : List Ed) (hl : l.length ≤ 1048576) : phi C0 (lim C0) 26 [grTV b n l] [] = some (.ag [(.pv false (.sc (.int .i64 n))), .ref 16 0 l.length], [(16, .row .own 42 2 (eds l))]) := call0 Try.func26 (by kernel_rfl) (e26 Try.f26 Try.results26 b n l hl)
set_option maxRecDepth 100000 in
set_option maxHeartbeats 4000000 in
theorem e86 (fn : Func) (hr : fn.results = #[.tmp 4]) (e e' : Ed) : lim C0 86 fn [.c (code Try.f86)] ⟨number [edTV e, edTV e'] 0, []⟩ = some ((.pv false (.sc (.bool (decide (e = e'))))), []) := by
  simp [code, Try.f86, hr]
  repeat' ((first | refine ifL_cases (fun h => ?_) (fun h => ?_) | refine gI_cases' (fun h => ?_) (fun h => ?_) | refine gI_cases (fun h => ?_) (fun h => ?_) | refine dI_cases' (fun h => ?_) (fun h => ?_) | refine dI_cases (fun h => ?_) (fun h => ?_)) <;> first | replace h := of_decide_eq_true h | replace h := of_decide_eq_false h | skip
           all_goals try simp [*])
  all_goals grind
theorem p86 (e e' : Ed) : phi C0 (lim C0) 86 [edTV e, edTV e'] [] = some ((.pv false (.sc (.bool (decide (e = e'))))), []) := call0 Try.func86 (by kernel_rfl) (e86 Try.f86 Try.results86 e e')
set_option maxRecDepth 100000 in
set_option maxHeartbeats 4000000 in
theorem e64 (fn : Func) (hr : fn.results = #[.tmp 4]) (b b' : Bool) (k l : List Ed) (hl : l.length ≤ 4611686018427387904) : lim C0 64 fn [.c (code Try.f64)] ⟨number [.pv b (.sl (eds k)), .pv b' (.sl (eds l))] 0, []⟩ = some ((.pv false (.sc (.bool (decide (k = l))))), []) := by
  have hp6 := plan64_6
  simp [opsOf, code, Try.f64] at hp6
  simp [code, Try.f64, hr, hp6]
  (first | refine ifL_cases (fun h => ?_) (fun h => ?_) | refine gI_cases' (fun h => ?_) (fun h => ?_) | refine gI_cases (fun h => ?_) (fun h => ?_) | refine dI_cases' (fun h => ?_) (fun h => ?_) | refine dI_cases (fun h => ?_) (fun h => ?_)) <;> first | replace h := of_decide_eq_true h | replace h := of_decide_eq_false h | skip
  · simp [*]
    refine (loop_to (s0 := ?s0) (fun i => l.length - i) (fun i => [(5, (.pv false (.sc (.int .i64 ((i : Nat))))))]) (fun _ => []) (fun i K => bif decide (k.drop i = l.drop i) then K [(5, (.pv false (.sc (.int .i64 l.length))))] [] else some ((.pv false (.sc (.bool false))), [])) (fun i => i ≤ l.length) 0 ?hc ?h0 ?hs ?step).trans ?r
    case hc => simp; rfl
    case h0 => simp
    case hs => simp
    case r => simp [hr]; grind
    intro k' i hi ih
    have p1 := p86
    simp only [edTV] at p1
    simp [*]
    repeat' ((first | refine ifL_cases (fun h => ?_) (fun h => ?_) | refine gI_cases' (fun h => ?_) (fun h => ?_) | refine gI_cases (fun h => ?_) (fun h => ?_) | refine dI_cases' (fun h => ?_) (fun h => ?_) | refine dI_cases (fun h => ?_) (fun h => ?_)) <;> first | replace h := of_decide_eq_true h | replace h := of_decide_eq_false h | skip
             all_goals try simp [p1, *])
    all_goals try simp (disch := omega) only [wrap_id']
    all_goals first | (refine (ih.out (i + 1) _ (by first | omega | grind) (by first | omega | (refine And.intro ?_ ?_; focus omega; (simp [*]; done)) | grind) (by first | (simp [*]; done) | (simp [*]; omega))).trans ?_; try simp [*]) | skip
    all_goals clear ih
    all_goals grind [drop_at, drop_end]
  · simp [hr]; grind
theorem p64 (b b' : Bool) (k l : List Ed) (hl : l.length ≤ 4611686018427387904) : phi C0 (lim C0) 64 [.pv b (.sl (eds k)), .pv b' (.sl (eds l))] [] = some ((.pv false (.sc (.bool (decide (k = l))))), []) := call0 Try.func64 (by kernel_rfl) (e64 Try.f64 Try.results64 b b' k l hl)
set_option maxRecDepth 100000 in
set_option maxHeartbeats 4000000 in
theorem e28 (fn : Func) (hr : fn.results = #[.tmp 4]) (b b' : Bool) (n n' : Int) (k l : List Ed) (hl : l.length ≤ 4611686018427387904) : lim C0 28 fn [.c (code Try.f28)] ⟨number [grTV b n k, grTV b' n' l] 0, []⟩ = some ((.pv false (.sc (.bool (decide (n = n') && decide (k = l))))), []) := by
  simp [code, Try.f28, hr, p64, hl]
  repeat' ((first | refine ifL_cases (fun h => ?_) (fun h => ?_) | refine gI_cases' (fun h => ?_) (fun h => ?_) | refine gI_cases (fun h => ?_) (fun h => ?_) | refine dI_cases' (fun h => ?_) (fun h => ?_) | refine dI_cases (fun h => ?_) (fun h => ?_)) <;> first | replace h := of_decide_eq_true h | replace h := of_decide_eq_false h | skip
           all_goals try simp [p64, *])
  all_goals grind
theorem p28 (b b' : Bool) (n n' : Int) (k l : List Ed) (hl : l.length ≤ 4611686018427387904) : phi C0 (lim C0) 28 [grTV b n k, grTV b' n' l] [] = some ((.pv false (.sc (.bool (decide (n = n') && decide (k = l))))), []) := call0 Try.func28 (by kernel_rfl) (e28 Try.f28 Try.results28 b b' n n' k l hl)
end Go.Proofs.Ytopoaemlbnkhgaa
