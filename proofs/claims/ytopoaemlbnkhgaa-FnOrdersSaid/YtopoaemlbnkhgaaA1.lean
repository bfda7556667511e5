/- What the reference's CmdOk and the program's answer. -/
import Derived.Test.YtopoaemlbnkhgaaT0
import Derived.Test.YtopoaemlbnkhgaaPm4
namespace Go.Proofs.Ytopoaemlbnkhgaa
open Go Go.Pm Go.Proofs
set_option linter.unusedVariables false
set_option linter.unusedSimpArgs false
def okA (a : Int) : Bool := decide (0 ≤ a) && decide (a ≤ 1000000)
def okAs : List Int → Bool
  | [] => true
  | a :: l => okA a && okAs l
def ansI (l : List Int) : Bool := decide (l.length ≤ 100) && okAs l
/-- What isCmd answers. -/
def cmdOk (k : Int) (t : List Int) (n : Int) (a : List Int) : Bool :=
  if k = 0 then decide (t.length ≤ 1200) && decide (n = 0) && ansI a
  else if k = 1 ∨ k = 2 then decide (t.length = 0) && (decide (0 ≤ n) && decide (n ≤ 1000000)) && decide (a.length = 0)
  else if k = 3 then decide (t.length = 0) && (decide (0 ≤ n) && decide (n ≤ 1000000)) && ansI a
  else if k = 4 then decide (t.length = 0) && decide (n = 0) && decide (a.length = 0)
  else false
/-- A command, by its parts. -/
def cmdTV (k : Int) (t : List Int) (n : Int) (a : List Int) : TV := .ag [(.pv false (.sc (.int .i64 k))), .pv false (.sl (nums .u8 t)), (.pv false (.sc (.int .i64 n))), .pv false (.sl (nums .i64 a))]
def szL (n : Nat) (left : Int) : Int := if left - n < 0 then -1 else left - n
set_option maxRecDepth 100000 in
set_option maxHeartbeats 4000000 in
theorem e48 (fn : Func) (hr : fn.results = #[.tmp 4]) (b b' : Bool) (l : List (List PV)) (left : Int) (h0 : 0 ≤ left) (h1 : left ≤ 1048576) (hl : l.length ≤ 9223372036854775807) : lim C0 48 fn [.c (code Try.f48)] ⟨number [.pv b (.sl l), .pv b' (.sc (.int .i64 left))] 0, []⟩ = some ((.pv false (.sc (.int .i64 (szL l.length left)))), []) := by
  have hw : IntKind.i64.wrap (left - (l.length : Int)) = left - l.length := wrap_id' (by omega)
  simp [code, Try.f48, hr, hw]
  repeat' ((first | refine ifL_cases (fun h => ?_) (fun h => ?_) | refine gI_cases' (fun h => ?_) (fun h => ?_) | refine gI_cases (fun h => ?_) (fun h => ?_) | refine dI_cases' (fun h => ?_) (fun h => ?_) | refine dI_cases (fun h => ?_) (fun h => ?_)) <;> first | replace h := of_decide_eq_true h | replace h := of_decide_eq_false h | skip
           all_goals try simp [*])
  all_goals grind [szL]
theorem p48 (b b' : Bool) (l : List (List PV)) (left : Int) (h0 : 0 ≤ left) (h1 : left ≤ 1048576) (hl : l.length ≤ 9223372036854775807) : phi C0 (lim C0) 48 [.pv b (.sl l), .pv b' (.sc (.int .i64 left))] [] = some ((.pv false (.sc (.int .i64 (szL l.length left)))), []) := call0 Try.func48 (by kernel_rfl) (e48 Try.f48 Try.results48 b b' l left h0 h1 hl)
set_option maxRecDepth 100000 in
set_option maxHeartbeats 4000000 in
theorem e49 (fn : Func) (hr : fn.results = #[.tmp 4]) (b b' : Bool) (l : List (List PV)) (left : Int) (h0 : 0 ≤ left) (h1 : left ≤ 1048576) (hl : l.length ≤ 9223372036854775807) : lim C0 49 fn [.c (code Try.f49)] ⟨number [.pv b (.sl l), .pv b' (.sc (.int .i64 left))] 0, []⟩ = some ((.pv false (.sc (.int .i64 (szL l.length left)))), []) := by
  have hw : IntKind.i64.wrap (left - (l.length : Int)) = left - l.length := wrap_id' (by omega)
  simp [code, Try.f49, hr, hw]
  repeat' ((first | refine ifL_cases (fun h => ?_) (fun h => ?_) | refine gI_cases' (fun h => ?_) (fun h => ?_) | refine gI_cases (fun h => ?_) (fun h => ?_) | refine dI_cases' (fun h => ?_) (fun h => ?_) | refine dI_cases (fun h => ?_) (fun h => ?_)) <;> first | replace h := of_decide_eq_true h | replace h := of_decide_eq_false h | skip
           all_goals try simp [*])
  all_goals grind [szL]
theorem p49 (b b' : Bool) (l : List (List PV)) (left : Int) (h0 : 0 ≤ left) (h1 : left ≤ 1048576) (hl : l.length ≤ 9223372036854775807) : phi C0 (lim C0) 49 [.pv b (.sl l), .pv b' (.sc (.int .i64 left))] [] = some ((.pv false (.sc (.int .i64 (szL l.length left)))), []) := call0 Try.func49 (by kernel_rfl) (e49 Try.f49 Try.results49 b b' l left h0 h1 hl)
set_option maxRecDepth 100000 in
set_option maxHeartbeats 4000000 in
theorem e51 (fn : Func) (hr : fn.results = #[.tmp 2]) (b : Bool) (l : List Int) (hl : l.length ≤ 1048576) : lim C0 51 fn [.c (code Try.f51)] ⟨number [.pv b (.sl (nums .u8 l))] 0, []⟩ = some (.pv false (.sl (nums .u8 l)), []) := by
  have g1 : l.length * 1 ≤ Pm.roomBytes := by unfold Pm.roomBytes; omega
  have g2 : (l.length : Int) ≤ 9223372036854775807 := by omega
  try simp at g1
  simp [code, Try.f51, hr, g1, g2]
  refine (loop_to (s0 := ?s0) (fun i => l.length - i) (fun i => [(4, (.pv false (.sc (.int .i64 ((i : Nat))))))]) (fun i => [(16, .row .own 5 1 (fillS (numP .u8) [.sc (.int .u8 0)] l i))]) (fun i K => K [(4, (.pv false (.sc (.int .i64 l.length))))] [(16, .row .own 5 1 (nums .u8 l))]) (fun i => i ≤ l.length) 0 ?hc ?h0 ?hs ?step).trans ?r
  case hc => simp; rfl
  case h0 => simp
  case hs => simp
  case r => simp [hr]
  intro k i hi ih
  simp
  (first | refine ifL_cases (fun h => ?_) (fun h => ?_) | refine gI_cases' (fun h => ?_) (fun h => ?_) | refine gI_cases (fun h => ?_) (fun h => ?_) | refine dI_cases' (fun h => ?_) (fun h => ?_) | refine dI_cases (fun h => ?_) (fun h => ?_)) <;> first | replace h := of_decide_eq_true h | replace h := of_decide_eq_false h | skip
  · have e2 := fillS_set (numP .u8) [.sc (.int .u8 0)] l i h
    simp only [numP] at e2
    simp [*]
    try simp (disch := omega) only [wrap_id']
    first | (refine (ih.out (i + 1) _ (by first | omega | grind) (by first | omega | (refine And.intro ?_ ?_; focus omega; (simp [*]; done)) | grind) (by first | (simp [*]; done) | (simp [*]; omega))).trans ?_; try simp [*]) | skip
  · have e : i = l.length := by omega
    subst e
    simp
theorem p51 (b : Bool) (l : List Int) (hl : l.length ≤ 1048576) : phi C0 (lim C0) 51 [.pv b (.sl (nums .u8 l))] [] = some (.pv false (.sl (nums .u8 l)), []) := call0 Try.func51 (by kernel_rfl) (e51 Try.f51 Try.results51 b l hl)
set_option maxRecDepth 100000 in
set_option maxHeartbeats 4000000 in
theorem e30 (fn : Func) (hr : fn.results = #[.tmp 2]) (b : Bool) (l : List Int) (hl : l.length ≤ 1048576) : lim C0 30 fn [.c (code Try.f30)] ⟨number [.pv b (.sl (nums .i64 l))] 0, []⟩ = some (.ref 16 0 l.length, [(16, .row .own 3 1 (nums .i64 l))]) := by
  have g1 : l.length * 8 ≤ Pm.roomBytes := by unfold Pm.roomBytes; omega
  have g2 : (l.length : Int) ≤ 9223372036854775807 := by omega
  try simp at g1
  simp [code, Try.f30, hr, g1, g2]
  refine (loop_to (s0 := ?s0) (fun i => l.length - i) (fun i => [(4, (.pv false (.sc (.int .i64 ((i : Nat))))))]) (fun i => [(16, .row .own 3 1 (fillS (numP .i64) [.sc (.int .i64 0)] l i))]) (fun i K => K [(4, (.pv false (.sc (.int .i64 l.length))))] [(16, .row .own 3 1 (nums .i64 l))]) (fun i => i ≤ l.length) 0 ?hc ?h0 ?hs ?step).trans ?r
  case hc => simp; rfl
  case h0 => simp
  case hs => simp
  case r => simp [hr]
  intro k i hi ih
  simp
  (first | refine ifL_cases (fun h => ?_) (fun h => ?_) | refine gI_cases' (fun h => ?_) (fun h => ?_) | refine gI_cases (fun h => ?_) (fun h => ?_) | refine dI_cases' (fun h => ?_) (fun h => ?_) | refine dI_cases (fun h => ?_) (fun h => ?_)) <;> first | replace h := of_decide_eq_true h | replace h := of_decide_eq_false h | skip
  · have e2 := fillS_set (numP .i64) [.sc (.int .i64 0)] l i h
    simp only [numP] at e2
    simp [*]
    try simp (disch := omega) only [wrap_id']
    first | (refine (ih.out (i + 1) _ (by first | omega | grind) (by first | omega | (refine And.intro ?_ ?_; focus omega; (simp [*]; done)) | grind) (by first | (simp [*]; done) | (simp [*]; omega))).trans ?_; try simp [*]) | skip
  · have e : i = l.length := by omega
    subst e
    simp
theorem p30 (b : Bool) (l : List Int) (hl : l.length ≤ 1048576) : phi C0 (lim C0) 30 [.pv b (.sl (nums .i64 l))] [] = some (.ref 16 0 l.length, [(16, .row .own 3 1 (nums .i64 l))]) := call0 Try.func30 (by kernel_rfl) (e30 Try.f30 Try.results30 b l hl)
set_option maxRecDepth 100000 in
set_option maxHeartbeats 4000000 in
theorem e53 (fn : Func) (hr : fn.results = #[.tmp 4]) (b b' : Bool) (k l : List Int) (hl : l.length ≤ 4611686018427387904) : lim C0 53 fn [.c (code Try.f53)] ⟨number [.pv b (.sl (nums .u8 k)), .pv b' (.sl (nums .u8 l))] 0, []⟩ = some ((.pv false (.sc (.bool (decide (k = l))))), []) := by
  have hp6 := plan53_6
  simp [opsOf, code, Try.f53] at hp6
  simp [code, Try.f53, hr, hp6]
  (first | refine ifL_cases (fun h => ?_) (fun h => ?_) | refine gI_cases' (fun h => ?_) (fun h => ?_) | refine gI_cases (fun h => ?_) (fun h => ?_) | refine dI_cases' (fun h => ?_) (fun h => ?_) | refine dI_cases (fun h => ?_) (fun h => ?_)) <;> first | replace h := of_decide_eq_true h | replace h := of_decide_eq_false h | skip
  · simp [*]
    refine (loop_to (s0 := ?s0) (fun i => l.length - i) (fun i => [(5, (.pv false (.sc (.int .i64 ((i : Nat))))))]) (fun _ => []) (fun i K => bif decide (k.drop i = l.drop i) then K [(5, (.pv false (.sc (.int .i64 l.length))))] [] else some ((.pv false (.sc (.bool false))), [])) (fun i => i ≤ l.length) 0 ?hc ?h0 ?hs ?step).trans ?r
    case hc => simp; rfl
    case h0 => simp
    case hs => simp
    case r => simp [hr]; grind
    intro k i hi ih
    simp [*]
    repeat' ((first | refine ifL_cases (fun h => ?_) (fun h => ?_) | refine gI_cases' (fun h => ?_) (fun h => ?_) | refine gI_cases (fun h => ?_) (fun h => ?_) | refine dI_cases' (fun h => ?_) (fun h => ?_) | refine dI_cases (fun h => ?_) (fun h => ?_)) <;> first | replace h := of_decide_eq_true h | replace h := of_decide_eq_false h | skip
             all_goals try simp [*])
    all_goals try simp (disch := omega) only [wrap_id']
    all_goals first | (refine (ih.out (i + 1) _ (by first | omega | grind) (by first | omega | (refine And.intro ?_ ?_; focus omega; (simp [*]; done)) | grind) (by first | (simp [*]; done) | (simp [*]; omega))).trans ?_; try simp [*]) | skip
    all_goals clear ih
    all_goals grind [drop_at, drop_end]
  · simp [hr]; grind
theorem p53 (b b' : Bool) (k l : List Int) (hl : l.length ≤ 4611686018427387904) : phi C0 (lim C0) 53 [.pv b (.sl (nums .u8 k)), .pv b' (.sl (nums .u8 l))] [] = some ((.pv false (.sc (.bool (decide (k = l))))), []) := call0 Try.func53 (by kernel_rfl) (e53 Try.f53 Try.results53 b b' k l hl)
set_option maxRecDepth 100000 in
set_option maxHeartbeats 4000000 in
theorem e32 (fn : Func) (hr : fn.results = #[.tmp 4]) (b b' : Bool) (k l : List Int) (hl : l.length ≤ 4611686018427387904) : lim C0 32 fn [.c (code Try.f32)] ⟨number [.pv b (.sl (nums .i64 k)), .pv b' (.sl (nums .i64 l))] 0, []⟩ = some ((.pv false (.sc (.bool (decide (k = l))))), []) := by
  have hp6 := plan32_6
  simp [opsOf, code, Try.f32] at hp6
  simp [code, Try.f32, hr, hp6]
  (first | refine ifL_cases (fun h => ?_) (fun h => ?_) | refine gI_cases' (fun h => ?_) (fun h => ?_) | refine gI_cases (fun h => ?_) (fun h => ?_) | refine dI_cases' (fun h => ?_) (fun h => ?_) | refine dI_cases (fun h => ?_) (fun h => ?_)) <;> first | replace h := of_decide_eq_true h | replace h := of_decide_eq_false h | skip
  · simp [*]
    refine (loop_to (s0 := ?s0) (fun i => l.length - i) (fun i => [(5, (.pv false (.sc (.int .i64 ((i : Nat))))))]) (fun _ => []) (fun i K => bif decide (k.drop i = l.drop i) then K [(5, (.pv false (.sc (.int .i64 l.length))))] [] else some ((.pv false (.sc (.bool false))), [])) (fun i => i ≤ l.length) 0 ?hc ?h0 ?hs ?step).trans ?r
    case hc => simp; rfl
    case h0 => simp
    case hs => simp
    case r => simp [hr]; grind
    intro k i hi ih
    simp [*]
    repeat' ((first | refine ifL_cases (fun h => ?_) (fun h => ?_) | refine gI_cases' (fun h => ?_) (fun h => ?_) | refine gI_cases (fun h => ?_) (fun h => ?_) | refine dI_cases' (fun h => ?_) (fun h => ?_) | refine dI_cases (fun h => ?_) (fun h => ?_)) <;> first | replace h := of_decide_eq_true h | replace h := of_decide_eq_false h | skip
             all_goals try simp [*])
    all_goals try simp (disch := omega) only [wrap_id']
    all_goals first | (refine (ih.out (i + 1) _ (by first | omega | grind) (by first | omega | (refine And.intro ?_ ?_; focus omega; (simp [*]; done)) | grind) (by first | (simp [*]; done) | (simp [*]; omega))).trans ?_; try simp [*]) | skip
    all_goals clear ih
    all_goals grind [drop_at, drop_end]
  · simp [hr]; grind
theorem p32 (b b' : Bool) (k l : List Int) (hl : l.length ≤ 4611686018427387904) : phi C0 (lim C0) 32 [.pv b (.sl (nums .i64 k)), .pv b' (.sl (nums .i64 l))] [] = some ((.pv false (.sc (.bool (decide (k = l))))), []) := call0 Try.func32 (by kernel_rfl) (e32 Try.f32 Try.results32 b b' k l hl)
set_option maxRecDepth 100000 in
set_option maxHeartbeats 4000000 in
theorem e50 (fn : Func) (hr : fn.results = #[.tmp 2]) (b : Bool) (l : List Int) : lim C0 50 fn [.c (code Try.f50)] ⟨number [.pv b (.sl (nums .i64 l))] 0, []⟩ = some ((.pv false (.sc (.bool (ansI l)))), []) := by
  simp [code, Try.f50, hr]
  (first | refine ifL_cases (fun h => ?_) (fun h => ?_) | refine gI_cases' (fun h => ?_) (fun h => ?_) | refine gI_cases (fun h => ?_) (fun h => ?_) | refine dI_cases' (fun h => ?_) (fun h => ?_) | refine dI_cases (fun h => ?_) (fun h => ?_)) <;> first | replace h := of_decide_eq_true h | replace h := of_decide_eq_false h | skip
  · simp [hr, ansI]; omega
  simp
  refine (loop_to (s0 := ?s0) (fun i => l.length - i) (fun i => [(3, (.pv false (.sc (.int .i64 ((i : Nat))))))]) (fun _ => []) (fun i K => bif okAs (l.drop i) then K [(3, (.pv false (.sc (.int .i64 l.length))))] [] else some ((.pv false (.sc (.bool false))), [])) (fun i => i ≤ l.length) 0 ?hc ?h0 ?hs ?step).trans ?r
  case hc => simp; rfl
  case h0 => simp
  case hs => simp
  case r =>
    simp [hr]
    grind [ansI]
  intro k i hi ih
  simp
  repeat' ((first | refine ifL_cases (fun h => ?_) (fun h => ?_) | refine gI_cases' (fun h => ?_) (fun h => ?_) | refine gI_cases (fun h => ?_) (fun h => ?_) | refine dI_cases' (fun h => ?_) (fun h => ?_) | refine dI_cases (fun h => ?_) (fun h => ?_)) <;> first | replace h := of_decide_eq_true h | replace h := of_decide_eq_false h | skip
           all_goals try simp [*])
  all_goals try simp (disch := omega) only [wrap_id']
  all_goals first | (refine (ih.out (i + 1) _ (by first | omega | grind) (by first | omega | (refine And.intro ?_ ?_; focus omega; (simp [*]; done)) | grind) (by first | (simp [*]; done) | (simp [*]; omega))).trans ?_; try simp [*]) | skip
  all_goals clear ih
  all_goals grind [okA, okAs, drop_at, drop_end]
theorem p50 (b : Bool) (l : List Int) : phi C0 (lim C0) 50 [.pv b (.sl (nums .i64 l))] [] = some ((.pv false (.sc (.bool (ansI l)))), []) := call0 Try.func50 (by kernel_rfl) (e50 Try.f50 Try.results50 b l)
def inI (a b c : Int) : Bool := decide (b ≤ a) && decide (a ≤ c)
set_option maxRecDepth 100000 in
set_option maxHeartbeats 4000000 in
theorem e60 (fn : Func) (hr : fn.results = #[.tmp 6]) (a b c : Int) : lim C0 60 fn [.c (code Try.f60)] ⟨number [(.pv false (.sc (.int .i64 a))), (.pv false (.sc (.int .i64 b))), (.pv false (.sc (.int .i64 c)))] 0, []⟩ = some ((.pv false (.sc (.bool (inI a b c)))), []) := by
  simp [code, Try.f60, hr]
  repeat' ((first | refine ifL_cases (fun h => ?_) (fun h => ?_) | refine gI_cases' (fun h => ?_) (fun h => ?_) | refine gI_cases (fun h => ?_) (fun h => ?_) | refine dI_cases' (fun h => ?_) (fun h => ?_) | refine dI_cases (fun h => ?_) (fun h => ?_)) <;> first | replace h := of_decide_eq_true h | replace h := of_decide_eq_false h | skip
           all_goals try simp [*])
  all_goals grind [inI]
theorem p60 (a b c : Int) : phi C0 (lim C0) 60 [(.pv false (.sc (.int .i64 a))), (.pv false (.sc (.int .i64 b))), (.pv false (.sc (.int .i64 c)))] [] = some ((.pv false (.sc (.bool (inI a b c)))), []) := call0 Try.func60 (by kernel_rfl) (e60 Try.f60 Try.results60 a b c)
def findA : List Int → Nat → Int
  | [], _ => -1
  | a :: l, i => bif okA a then findA l (i + 1) else i
theorem findA_ge : ∀ (l : List Int) (i : Nat), decide (0 ≤ findA l i) = !okAs l
  | [], i => by simp [findA, okAs]
  | a :: l, i => by
    have ih := findA_ge l (i + 1)
    cases h : okA a <;> simp [findA, okAs, h, ih]
set_option maxRecDepth 100000 in
set_option maxHeartbeats 4000000 in
theorem e95 (fn : Func) (hr : fn.results = #[.tmp 2]) (a : Int) : lim C0 95 fn [.c (code Try.f95)] ⟨number [(.pv false (.sc (.int .i64 a)))] 0, []⟩ = some ((.pv false (.sc (.bool (!okA a)))), []) := by
  simp [code, Try.f95, hr, p60, okA, inI]
theorem p95 (a : Int) : phi C0 (lim C0) 95 [(.pv false (.sc (.int .i64 a)))] [] = some ((.pv false (.sc (.bool (!okA a)))), []) := call0 Try.func95 (by kernel_rfl) (e95 Try.f95 Try.results95 a)
set_option maxRecDepth 100000 in
set_option maxHeartbeats 4000000 in
theorem e93 (fn : Func) (hr : fn.results = #[.tmp 4]) (b b' : Bool) (l : List Int) (hl : l.length ≤ 4611686018427387904) : lim C0 93 fn [.c (code Try.f93)] ⟨number [.pv b (.sl (nums .i64 l)), .pv b' (.cl 95 [])] 0, []⟩ = some ((.pv false (.sc (.int .i64 (findA l 0)))), []) := by
  simp [code, Try.f93, hr]
  refine (loop_go (s0 := ?s0) (fun i => l.length - i) (fun i => [(8, (.pv false (.sc (.int .i64 ((i : Nat))))))]) (fun i => []) (fun i => some ((.pv false (.sc (.int .i64 (findA (l.drop i) i)))), [])) (fun i => i ≤ l.length) 0 ?hc ?h0 ?hs ?step).trans ?r
  case hc => simp; rfl
  case h0 => simp
  case hs => simp
  case r => simp [hr]
  intro i hi ih
  simp
  repeat' ((first | refine ifL_cases (fun h => ?_) (fun h => ?_) | refine gI_cases' (fun h => ?_) (fun h => ?_) | refine gI_cases (fun h => ?_) (fun h => ?_) | refine dI_cases' (fun h => ?_) (fun h => ?_) | refine dI_cases (fun h => ?_) (fun h => ?_)) <;> first | replace h := of_decide_eq_true h | replace h := of_decide_eq_false h | skip
           all_goals try simp [p95, *])
  all_goals try simp (disch := omega) only [wrap_id']
  all_goals first | (refine (ih.out (i + 1) _ (by first | omega | grind) (by first | omega | (refine And.intro ?_ ?_; focus omega; (simp [*]; done)) | grind) (by first | (simp [*]; done) | (simp [*]; omega))).trans ?_; try simp [*]) | skip
  all_goals clear ih
  all_goals grind [drop_at, drop_end, findA]
theorem p93 (b b' : Bool) (l : List Int) (hl : l.length ≤ 4611686018427387904) : phi C0 (lim C0) 93 [.pv b (.sl (nums .i64 l)), .pv b' (.cl 95 [])] [] = some ((.pv false (.sc (.int .i64 (findA l 0)))), []) := call0 Try.func93 (by kernel_rfl) (e93 Try.f93 Try.results93 b b' l hl)
set_option maxRecDepth 100000 in
set_option maxHeartbeats 4000000 in
theorem e75 (fn : Func) (hr : fn.results = #[.tmp 4]) (b b' : Bool) (l : List Int) (hl : l.length ≤ 4611686018427387904) : lim C0 75 fn [.c (code Try.f75)] ⟨number [.pv b (.sl (nums .i64 l)), .pv b' (.cl 95 [])] 0, []⟩ = some ((.pv false (.sc (.bool (!okAs l)))), []) := by
  have := findA_ge l 0
  simp [code, Try.f75, hr, p93, hl, this]
theorem p75 (b b' : Bool) (l : List Int) (hl : l.length ≤ 4611686018427387904) : phi C0 (lim C0) 75 [.pv b (.sl (nums .i64 l)), .pv b' (.cl 95 [])] [] = some ((.pv false (.sc (.bool (!okAs l)))), []) := call0 Try.func75 (by kernel_rfl) (e75 Try.f75 Try.results75 b b' l hl)
set_option maxRecDepth 100000 in
set_option maxHeartbeats 4000000 in
theorem e80 (fn : Func) (hr : fn.results = #[.tmp 2]) (b : Bool) (l : List Int) (hl : l.length ≤ 4611686018427387904) : lim C0 80 fn [.c (code Try.f80)] ⟨number [.pv b (.sl (nums .i64 l))] 0, []⟩ = some ((.pv false (.sc (.bool (ansI l)))), []) := by
  simp [code, Try.f80, hr, p75, hl]
  repeat' ((first | refine ifL_cases (fun h => ?_) (fun h => ?_) | refine gI_cases' (fun h => ?_) (fun h => ?_) | refine gI_cases (fun h => ?_) (fun h => ?_) | refine dI_cases' (fun h => ?_) (fun h => ?_) | refine dI_cases (fun h => ?_) (fun h => ?_)) <;> first | replace h := of_decide_eq_true h | replace h := of_decide_eq_false h | skip
           all_goals try simp [p75, *])
  all_goals grind [ansI]
theorem p80 (b : Bool) (l : List Int) (hl : l.length ≤ 4611686018427387904) : phi C0 (lim C0) 80 [.pv b (.sl (nums .i64 l))] [] = some ((.pv false (.sc (.bool (ansI l)))), []) := call0 Try.func80 (by kernel_rfl) (e80 Try.f80 Try.results80 b l hl)
set_option maxRecDepth 100000 in
set_option maxHeartbeats 4000000 in
theorem e52 (fn : Func) (hr : fn.results = #[.tmp 2]) (k : Int) (t : List Int) (n : Int) (a : List Int) (ht : t.length ≤ 1048576) (ha : a.length ≤ 1048576) : lim C0 52 fn [.c (code Try.f52)] ⟨number [cmdTV k t n a] 0, []⟩ = some ((.pv false (.sc (.bool (cmdOk k t n a)))), []) := by
  have ha' : a.length ≤ 4611686018427387904 := by omega
  simp [code, Try.f52, hr, cmdTV, p60, p80, ha']
  repeat' ((first | refine ifL_cases (fun h => ?_) (fun h => ?_) | refine gI_cases' (fun h => ?_) (fun h => ?_) | refine gI_cases (fun h => ?_) (fun h => ?_) | refine dI_cases' (fun h => ?_) (fun h => ?_) | refine dI_cases (fun h => ?_) (fun h => ?_)) <;> first | replace h := of_decide_eq_true h | replace h := of_decide_eq_false h | skip
           all_goals try simp [p60, p80, *])
  all_goals grind [cmdOk, inI]
theorem p52 (k : Int) (t : List Int) (n : Int) (a : List Int) (ht : t.length ≤ 1048576) (ha : a.length ≤ 1048576) : phi C0 (lim C0) 52 [cmdTV k t n a] [] = some ((.pv false (.sc (.bool (cmdOk k t n a)))), []) := call0 Try.func52 (by kernel_rfl) (e52 Try.f52 Try.results52 k t n a ht ha)
set_option maxRecDepth 100000 in
set_option maxHeartbeats 4000000 in
theorem e17 (fn : Func) (hr : fn.results = #[.tmp 2]) (k : Int) (t : List Int) (n : Int) (a : List Int) (ht : t.length ≤ 1048576) (ha : a.length ≤ 1048576) : lim C0 17 fn [.c (code Try.f17)] ⟨number [cmdTV k t n a] 0, []⟩ = some ((.pv false (.sc (.bool (cmdOk k t n a)))), []) := by
  have h := p52 k t n a ht ha
  simp only [cmdTV] at h ⊢
  simp [code, Try.f17, hr, h]
theorem p17 (k : Int) (t : List Int) (n : Int) (a : List Int) (ht : t.length ≤ 1048576) (ha : a.length ≤ 1048576) : phi C0 (lim C0) 17 [cmdTV k t n a] [] = some ((.pv false (.sc (.bool (cmdOk k t n a)))), []) := call0 Try.func17 (by kernel_rfl) (e17 Try.f17 Try.results17 k t n a ht ha)
theorem ansI_nil : ansI [] = true := rfl
set_option maxRecDepth 100000 in
set_option maxHeartbeats 4000000 in
theorem e15 (fn : Func) (hr : fn.results = #[.tmp 2]) (k : Int) (t : List Int) (n : Int) (a : List Int) : lim C0 15 fn [.c (code Try.f15)] ⟨number [cmdTV k t n a] 0, []⟩ = some ((.pv false (.sc (.bool (cmdOk k t n a)))), []) := by
  simp [code, Try.f15, hr, cmdTV, p50]
  repeat' ((first | refine ifL_cases (fun h => ?_) (fun h => ?_) | refine gI_cases' (fun h => ?_) (fun h => ?_) | refine gI_cases (fun h => ?_) (fun h => ?_) | refine dI_cases' (fun h => ?_) (fun h => ?_) | refine dI_cases (fun h => ?_) (fun h => ?_)) <;> first | replace h := of_decide_eq_true h | replace h := of_decide_eq_false h | skip
           all_goals try simp [p50, *])
  all_goals grind [cmdOk, ansI_nil]
theorem p15 (k : Int) (t : List Int) (n : Int) (a : List Int) : phi C0 (lim C0) 15 [cmdTV k t n a] [] = some ((.pv false (.sc (.bool (cmdOk k t n a)))), []) := call0 Try.func15 (by kernel_rfl) (e15 Try.f15 Try.results15 k t n a)
set_option maxRecDepth 100000 in
set_option maxHeartbeats 4000000 in
theorem e16 (fn : Func) (hr : fn.results = #[.cell 2 28]) (k : Int) (t : List Int) (n : Int) (a : List Int) (ht : t.length ≤ 1048576) (ha : a.length ≤ 1048576) : lim C0 16 fn [.c (code Try.f16)] ⟨number [cmdTV k t n a] 0, []⟩ = some (cmdTV k t n a, []) := by
  simp [code, Try.f16, hr, cmdTV, p51, p30, ht, ha]
theorem p16 (k : Int) (t : List Int) (n : Int) (a : List Int) (ht : t.length ≤ 1048576) (ha : a.length ≤ 1048576) : phi C0 (lim C0) 16 [cmdTV k t n a] [] = some (cmdTV k t n a, []) := call0 Try.func16 (by kernel_rfl) (e16 Try.f16 Try.results16 k t n a ht ha)
set_option maxRecDepth 100000 in
set_option maxHeartbeats 4000000 in
theorem e14 (fn : Func) (hr : fn.results = #[.tmp 4]) (b' : Bool) (k : Int) (t : List Int) (n : Int) (a : List Int) (left : Int) (h0 : 0 ≤ left) (h1 : left ≤ 1048576) (ht : t.length ≤ 9223372036854775807) (ha : a.length ≤ 9223372036854775807) : lim C0 14 fn [.c (code Try.f14)] ⟨number [cmdTV k t n a, .pv b' (.sc (.int .i64 left))] 0, []⟩ = some ((.pv false (.sc (.int .i64 (if szL t.length left < 0 then -1 else szL a.length (szL t.length left))))), []) := by
  have q1 : szL t.length left ≤ 1048576 := by unfold szL; split <;> omega
  simp [code, Try.f14, hr, cmdTV, p48, h0, h1, ht]
  (first | refine ifL_cases (fun h => ?_) (fun h => ?_) | refine gI_cases' (fun h => ?_) (fun h => ?_) | refine gI_cases (fun h => ?_) (fun h => ?_) | refine dI_cases' (fun h => ?_) (fun h => ?_) | refine dI_cases (fun h => ?_) (fun h => ?_)) <;> first | replace h := of_decide_eq_true h | replace h := of_decide_eq_false h | skip
  · simp [*]
  · have q2 : 0 ≤ szL t.length left := by omega
    simp [p49, *]
    repeat' ((first | refine ifL_cases (fun h => ?_) (fun h => ?_) | refine gI_cases' (fun h => ?_) (fun h => ?_) | refine gI_cases (fun h => ?_) (fun h => ?_) | refine dI_cases' (fun h => ?_) (fun h => ?_) | refine dI_cases (fun h => ?_) (fun h => ?_)) <;> first | replace h := of_decide_eq_true h | replace h := of_decide_eq_false h | skip
             all_goals try simp [*])
    all_goals grind [szL]
theorem p14 (b' : Bool) (k : Int) (t : List Int) (n : Int) (a : List Int) (left : Int) (h0 : 0 ≤ left) (h1 : left ≤ 1048576) (ht : t.length ≤ 9223372036854775807) (ha : a.length ≤ 9223372036854775807) : phi C0 (lim C0) 14 [cmdTV k t n a, .pv b' (.sc (.int .i64 left))] [] = some ((.pv false (.sc (.int .i64 (if szL t.length left < 0 then -1 else szL a.length (szL t.length left))))), []) := call0 Try.func14 (by kernel_rfl) (e14 Try.f14 Try.results14 b' k t n a left h0 h1 ht ha)
set_option maxRecDepth 100000 in
set_option maxHeartbeats 4000000 in
theorem e18 (fn : Func) (hr : fn.results = #[.tmp 4]) (k k' : Int) (t t' : List Int) (n n' : Int) (a a' : List Int) (ht : t'.length ≤ 4611686018427387904) (ha : a'.length ≤ 4611686018427387904) : lim C0 18 fn [.c (code Try.f18)] ⟨number [cmdTV k t n a, cmdTV k' t' n' a'] 0, []⟩ = some ((.pv false (.sc (.bool (decide (k = k') && decide (t = t') && decide (n = n') && decide (a = a'))))), []) := by
  simp [code, Try.f18, hr, cmdTV, p53, p32, ht, ha]
  repeat' ((first | refine ifL_cases (fun h => ?_) (fun h => ?_) | refine gI_cases' (fun h => ?_) (fun h => ?_) | refine gI_cases (fun h => ?_) (fun h => ?_) | refine dI_cases' (fun h => ?_) (fun h => ?_) | refine dI_cases (fun h => ?_) (fun h => ?_)) <;> first | replace h := of_decide_eq_true h | replace h := of_decide_eq_false h | skip
           all_goals try simp [p53, p32, *])
theorem p18 (k k' : Int) (t t' : List Int) (n n' : Int) (a a' : List Int) (ht : t'.length ≤ 4611686018427387904) (ha : a'.length ≤ 4611686018427387904) : phi C0 (lim C0) 18 [cmdTV k t n a, cmdTV k' t' n' a'] [] = some ((.pv false (.sc (.bool (decide (k = k') && decide (t = t') && decide (n = n') && decide (a = a'))))), []) := call0 Try.func18 (by kernel_rfl) (e18 Try.f18 Try.results18 k k' t t' n n' a a' ht ha)
set_option maxRecDepth 100000 in
set_option maxHeartbeats 4000000 in
theorem e3 (fn : Func) (hr : fn.results = #[.tmp 2]) (k : Int) (t : List Int) (n : Int) (a : List Int) (ht : t.length ≤ 9223372036854775807) (ha : a.length ≤ 9223372036854775807) : lim C0 3 fn [.c (code Try.f3)] ⟨number [cmdTV k t n a] 0, []⟩ = some (tf true, []) := by
  have hp10 := plan3_10
  simp [opsOf, code, Try.f3] at hp10
  have h14 := p14 false k t n a 1048576 (by omega) (by omega) ht ha
  have h15 := p15 k t n a
  have h16 := fun h1 h2 => p16 k t n a h1 h2
  have h17 := fun h1 h2 => p17 k t n a h1 h2
  have h18 := fun h1 h2 => p18 k k t t n n a a h1 h2
  simp only [cmdTV] at h14 h15 h16 h17 h18 ⊢
  simp [code, Try.f3, hr, hp10, h14]
  (first | refine ifL_cases (fun h => ?_) (fun h => ?_) | refine gI_cases' (fun h => ?_) (fun h => ?_) | refine gI_cases (fun h => ?_) (fun h => ?_) | refine dI_cases' (fun h => ?_) (fun h => ?_) | refine dI_cases (fun h => ?_) (fun h => ?_)) <;> first | replace h := of_decide_eq_true h | replace h := of_decide_eq_false h | skip
  · simp [*]
  · have t1 : t.length ≤ 1048576 ∧ a.length ≤ 1048576 := by grind [szL]
    have h16 := h16 t1.1 t1.2
    have h17 := h17 t1.1 t1.2
    have h18 := h18 (by omega) (by omega)
    simp [*]
theorem p3 (k : Int) (t : List Int) (n : Int) (a : List Int) (ht : t.length ≤ 9223372036854775807) (ha : a.length ≤ 9223372036854775807) : phi C0 (lim C0) 3 [cmdTV k t n a] [] = some (tf true, []) := call0 Try.func3 (by kernel_rfl) (e3 Try.f3 Try.results3 k t n a ht ha)
end Go.Proofs.Ytopoaemlbnkhgaa
