/- Plans: what the laws measure, copy and compare. -/
import Derived.Test.YtgbfmdihmnpcdaaGreatDoorV5
namespace Go.Proofs.YtgbfmdihmnpcdaaGreatDoor
open Go Go.Pm Go.Proofs
set_option linter.unusedVariables false
set_option linter.unusedSimpArgs false
set_option maxRecDepth 100000
set_option maxHeartbeats 4000000
/-- No list in it is longer than a list can be. -/
structure ABig (a : Act) : Prop where
  addr : a.addr.length ≤ 9223372036854775807
  val : VBig a.val
  deps : a.deps.length ≤ 9223372036854775807
  depsB : ∀ x ∈ a.deps, x.length ≤ 9223372036854775807
def szA (a : Act) (left : Int) : Int := if szL a.addr.length left < 0 then -1 else if szV a.val (szL a.addr.length left) < 0 then -1 else szBB a.deps (szV a.val (szL a.addr.length left))
def szAs : List Act → Int → Int
  | [], left => left
  | a :: l, left => if szA a left < 0 then -1 else szAs l (szA a left)
def szAA (l : List Act) (left : Int) : Int := if szL l.length left < 0 then -1 else szAs l (szL l.length left)
theorem szA_le (a : Act) (left : Int) (h : 0 ≤ left) : szA a left ≤ left ∧ -1 ≤ szA a left := by
  have h1 := szL_le a.addr.length left h
  unfold szA
  split
  · omega
  have h2 := szV_le a.val (szL a.addr.length left) (by omega)
  split
  · omega
  have h3 := szBB_le a.deps (szV a.val (szL a.addr.length left)) (by omega)
  omega
theorem szAs_le : ∀ (l : List Act) (left : Int), 0 ≤ left → szAs l left ≤ left ∧ -1 ≤ szAs l left
  | [], left, h => by simp [szAs]; omega
  | a :: l, left, h => by
    have h1 := szA_le a left h
    rw [szAs]
    split
    · omega
    · have := szAs_le l (szA a left) (by omega)
      omega
theorem szAA_le (l : List Act) (left : Int) (h : 0 ≤ left) : szAA l left ≤ left ∧ -1 ≤ szAA l left := by
  have h1 := szL_le l.length left h
  unfold szAA
  split
  · omega
  · have := szAs_le l (szL l.length left) (by omega)
    omega
theorem szA_ok {a : Act} {left : Int} (h : 0 ≤ left) (h' : left ≤ 1048576) (hs : ¬ szA a left < 0) : ALen a := by
  have h1 := szL_le a.addr.length left h
  unfold szA at hs
  split at hs
  · omega
  rename_i a1
  have b1 := szL_ok a1
  have h2 := szV_le a.val (szL a.addr.length left) (by omega)
  split at hs
  · omega
  rename_i a2
  have b2 := szV_ok a.val _ (by omega) (by omega) a2
  have b3 := szV_pt a.val _ (by omega) a2
  exact ⟨by unfold lenB; omega, b2, by omega, szBB_ok (by omega) (by omega) hs⟩
theorem szAs_ok : ∀ {l : List Act} {left : Int}, 0 ≤ left → left ≤ 1048576 → ¬ szAs l left < 0 → ∀ a ∈ l, ALen a
  | [], _, _, _, _, a, hb => by cases hb
  | x :: l, left, h0, h1, h, a, hb => by
    have h2 := szA_le x left h0
    rw [szAs] at h
    split at h
    · omega
    · rename_i h3
      rcases List.mem_cons.1 hb with rfl | hb
      · exact szA_ok h0 h1 h3
      · exact szAs_ok (by omega) (by omega) h a hb
theorem szAA_ok {l : List Act} {left : Int} (h : 0 ≤ left) (h' : left ≤ 1048576) (hs : ¬ szAA l left < 0) : l.length ≤ 1048576 ∧ ∀ a ∈ l, ALen a := by
  have h1 := szL_le l.length left h
  unfold szAA at hs
  split at hs
  · omega
  · rename_i a3
    have b3 := szL_ok a3
    exact ⟨by omega, szAs_ok (by omega) (by omega) hs⟩
theorem szAs_at {l : List Act} {i : Nat} {left : Int} (h : i < l.length) : szAs (l.drop i) left = if szA l[i] left < 0 then -1 else szAs (l.drop (i + 1)) (szA l[i] left) := by rw [drop_at h, szAs]
theorem p57 (a : Act) (left : Int) (h0 : 0 ≤ left) (h1 : left ≤ 1048576) (ha : ABig a) : phi C0 (lim C0) 57 [.ag [(.pv false (.sc (.int .i64 a.act))), .pv false (.sl (nums .u8 a.addr)), (.pv false (.sc (.int .i64 a.item))), (.pv false (.sc (.int .i64 a.val.kind))), (.pv false (.sc (.int .i64 a.val.n))), .pv false (.sl (nums .u8 a.val.s)), .pv false (.sl (rws byP a.val.k)), .pv false (.sl (rws vP a.val.l)), .pv false (.sl (rws byP a.deps))], (.pv false (.sc (.int .i64 left)))] [] = some ((.pv false (.sc (.int .i64 (szA a left)))), []) := call0 Tryz.func57 (by kernel_rfl) ((show ∀ fn : Func, fn.results = #[.tmp 4] → lim C0 57 fn [.c (code Tryz.f57)] ⟨_, _⟩ = _ from fun fn hr => by
  have p1 := fun b => p80 b (nums .u8 a.addr) left h0 h1 (by simpa using ha.addr)
  have hz := szL_le a.addr.length left h0
  simp only [rws_len] at p1
  unfold szA
  simp [code, Tryz.f57, hr, p1]
  (first | refine ifL_cases (fun h => ?_) (fun h => ?_) | refine gI_cases' (fun h => ?_) (fun h => ?_) | refine gI_cases (fun h => ?_) (fun h => ?_) | refine dI_cases' (fun h => ?_) (fun h => ?_) | refine dI_cases (fun h => ?_) (fun h => ?_)) <;> first | replace h := of_decide_eq_true h | replace h := of_decide_eq_false h | skip
  · simp [hr, h]
  rw [if_neg h]
  have p2 := fun b1 b2 b3 => szVal a.val ha.val b1 b2 b3 (szL a.addr.length left) (by omega) (by omega)
  have hz2 := szV_le a.val (szL a.addr.length left) (by omega)
  simp [p2]
  (first | refine ifL_cases (fun h => ?_) (fun h => ?_) | refine gI_cases' (fun h => ?_) (fun h => ?_) | refine gI_cases (fun h => ?_) (fun h => ?_) | refine dI_cases' (fun h => ?_) (fun h => ?_) | refine dI_cases (fun h => ?_) (fun h => ?_)) <;> first | replace h := of_decide_eq_true h | replace h := of_decide_eq_false h | skip
  · simp [hr, h]
  rw [if_neg h]
  have p3 := fun b => p100 b a.deps (szV a.val (szL a.addr.length left)) (by omega) (by omega) ha.deps ha.depsB
  have hz3 := szBB_le a.deps (szV a.val (szL a.addr.length left)) (by omega)
  simp [p3]
  (first | refine ifL_cases (fun h => ?_) (fun h => ?_) | refine gI_cases' (fun h => ?_) (fun h => ?_) | refine gI_cases (fun h => ?_) (fun h => ?_) | refine dI_cases' (fun h => ?_) (fun h => ?_) | refine dI_cases (fun h => ?_) (fun h => ?_)) <;> first | replace h := of_decide_eq_true h | replace h := of_decide_eq_false h | skip
  · simp [hr]; omega
  · simp [hr]
  ) Tryz.f57 Tryz.results57)
theorem p22 (b : Bool) (l : List Act) (left : Int) (h0 : 0 ≤ left) (h1 : left ≤ 1048576) (hl : l.length ≤ 9223372036854775807) (ha : ∀ a ∈ l, ABig a) : phi C0 (lim C0) 22 [.pv b (.sl (rws aP l)), (.pv false (.sc (.int .i64 left)))] [] = some ((.pv false (.sc (.int .i64 (szAA l left)))), []) := call0 Tryz.func22 (by kernel_rfl) ((show ∀ fn : Func, fn.results = #[.tmp 4] → globs fn = [0, 1, 11, 5, 15, 25, 4] → lim C0 22 fn [.c (code Tryz.f22)] ⟨_, _⟩ = _ from fun fn hr hg => by
  have hw : IntKind.i64.wrap (left - (l.length : Int)) = left - l.length := wrap_id' (by omega)
  simp [code, Tryz.f22, hr, hg, hw]
  (first | refine ifL_cases (fun h => ?_) (fun h => ?_) | refine gI_cases' (fun h => ?_) (fun h => ?_) | refine gI_cases (fun h => ?_) (fun h => ?_) | refine dI_cases' (fun h => ?_) (fun h => ?_) | refine dI_cases (fun h => ?_) (fun h => ?_)) <;> first | replace h := of_decide_eq_true h | replace h := of_decide_eq_false h | skip
  · simp [hg, hr, szAA, szL, h]
  · have hL : szL l.length left = left - l.length := by unfold szL; rw [if_neg h]
    unfold szAA
    rw [hL, if_neg h]
    simp [hg]
    refine (loop_to (s0 := ?s1) (fun x => l.length - x.1) (fun x => [(5, (.pv false (.sc (.int .i64 ((x.1 : Nat)))))), (1, (.pv false (.sc (.int .i64 x.2))))]) (fun x => []) (fun x K => (if szAs (l.drop x.1) x.2 < 0 then some ((.pv false (.sc (.int .i64 (-1)))), []) else K [(5, (.pv false (.sc (.int .i64 l.length)))), (1, (.pv false (.sc (.int .i64 (szAs (l.drop x.1) x.2)))))] [])) (fun x => x.1 ≤ l.length ∧ 0 ≤ x.2 ∧ x.2 ≤ 1048576) ((0 : Nat), left - (l.length : Int)) ?hc1 ?h01 ?hs1 ?step1).trans ?r1
    case hc1 => simp; rfl
    case h01 => first | (simp; done) | (simp [*]; done) | exact ⟨by simp, ⟨rfl⟩⟩ | grind | (simp; omega)
    case hs1 => first | (simp; done) | (simp [*]; done)
    case r1 =>
      have := szAs_le l (left - l.length) (by omega)
      simp [hg, hr]
      grind
    rintro k ⟨i, lf⟩ ⟨hi, h2, h3⟩ ih
    simp at hi h2 h3
    simp [hg]
    (first | refine ifL_cases (fun h => ?_) (fun h => ?_) | refine gI_cases' (fun h => ?_) (fun h => ?_) | refine gI_cases (fun h => ?_) (fun h => ?_) | refine dI_cases' (fun h => ?_) (fun h => ?_) | refine dI_cases (fun h => ?_) (fun h => ?_)) <;> first | replace h := of_decide_eq_true h | replace h := of_decide_eq_false h | skip
    · have hlt := h
      have q := p57 l[i] lf h2 h3 (ha _ (List.getElem_mem hlt))
      have hz := szA_le l[i] lf h2
      simp [hg, hlt, q, hr, hg]
      (first | refine ifL_cases (fun h => ?_) (fun h => ?_) | refine gI_cases' (fun h => ?_) (fun h => ?_) | refine gI_cases (fun h => ?_) (fun h => ?_) | refine dI_cases' (fun h => ?_) (fun h => ?_) | refine dI_cases (fun h => ?_) (fun h => ?_)) <;> first | replace h := of_decide_eq_true h | replace h := of_decide_eq_false h | skip
      · simp [hg, hr, szAs_at hlt, h]
      · rw [szAs_at hlt, if_neg h]
        simp [hg]
        try simp (disch := omega) only [wrap_id']
        refine (ih.out (i + 1, szA l[i] lf) _ ?_ ?_ ?_).trans ?_
        · simp [hg]; omega
        · simp [hg]; omega
        · simp [hg]
        · simp [hg]
    · have e : i = l.length := by omega
      subst e
      simp [hg, szAs]
      grind
  ) Tryz.f22 Tryz.results22 gl22)
theorem p5 (b : Bool) (l : List Act) (same left : Int) (h0 : 0 ≤ left) (h1 : left ≤ 1048576) (hl : l.length ≤ 9223372036854775807) (ha : ∀ a ∈ l, ABig a) : phi C0 (lim C0) 5 [.ag [.pv b (.sl (rws aP l)), (.pv false (.sc (.int .i64 same)))], (.pv false (.sc (.int .i64 left)))] [] = some ((.pv false (.sc (.int .i64 (szAA l left)))), []) := call0 Tryz.func5 (by kernel_rfl) ((show ∀ fn : Func, fn.results = #[.tmp 4] → lim C0 5 fn [.c (code Tryz.f5)] ⟨_, _⟩ = _ from fun fn hr => by
  have p1 := fun b => p22 b l left h0 h1 hl ha
  have hz := szAA_le l left h0
  simp [code, Tryz.f5, hr, p1]
  (first | refine ifL_cases (fun h => ?_) (fun h => ?_) | refine gI_cases' (fun h => ?_) (fun h => ?_) | refine gI_cases (fun h => ?_) (fun h => ?_) | refine dI_cases' (fun h => ?_) (fun h => ?_) | refine dI_cases (fun h => ?_) (fun h => ?_)) <;> first | replace h := of_decide_eq_true h | replace h := of_decide_eq_false h | skip
  · simp [hr]; omega
  · simp [hr]
  ) Tryz.f5 Tryz.results5)
theorem p65 (a : Act) (ha : ALen a) : phi C0 (lim C0) 65 [.ag [(.pv false (.sc (.int .i64 a.act))), .dv none ((nums .u8 a.addr)), (.pv false (.sc (.int .i64 a.item))), (.pv false (.sc (.int .i64 a.val.kind))), (.pv false (.sc (.int .i64 a.val.n))), .dv none ((nums .u8 a.val.s)), .dv none ((rws byP a.val.k)), .dv none ((rws vP a.val.l)), .dv none ((rws byP a.deps))]] [] = some (.ag [(.pv false (.sc (.int .i64 a.act))), .pv false (.sl (nums .u8 a.addr)), (.pv false (.sc (.int .i64 a.item))), (.pv false (.sc (.int .i64 a.val.kind))), (.pv false (.sc (.int .i64 a.val.n))), .pv false (.sl (nums .u8 a.val.s)), .pv false (.sl (rws byP a.val.k)), .pv false (.sl (rws vP a.val.l)), .pv false (.sl (rws byP a.deps))], []) := call0 Tryz.func65 (by kernel_rfl) ((show ∀ fn : Func, fn.results = #[.cell 2 69] → lim C0 65 fn [.c (code Tryz.f65)] ⟨_, _⟩ = _ from fun fn hr => by
  have p1 := p8 a.addr ha.addr
  have p2 := toV a.val ha.vl
  have p3 := p105 a.deps ha.dl
  simp [code, Tryz.f65, hr, p1, p2, p3]
  ) Tryz.f65 Tryz.results65)
theorem p26 (l : List Act) (hl : l.length ≤ 1048576) (ha : ∀ a ∈ l, ALen a) : phi C0 (lim C0) 26 [.dv none (rws aP l)] [] = some (.pv false (.sl (rws aP l)), []) := call0 Tryz.func26 (by kernel_rfl) ((show ∀ fn : Func, fn.results = #[.tmp 2] → globs fn = [0, 4, 11, 3, 2] → lim C0 26 fn [.c (code Tryz.f26)] ⟨_, _⟩ = _ from fun fn hr hg => by
  have g1 : l.length * 152 ≤ Pm.roomBytes := by unfold Pm.roomBytes; omega
  have g2 : (l.length : Int) ≤ 9223372036854775807 := by omega
  simp [code, Tryz.f26, hr, hg, g1, g2]
  refine (loop_to (s0 := ?s2) (fun i => l.length - i) (fun i => [(4, (.pv false (.sc (.int .i64 ((i : Nat))))))]) (fun i => [(16, .row .own 69 9 (fillS aP [.sc (.int .i64 0), .sl [], .sc (.int .i64 0), .sc (.int .i64 0), .sc (.int .i64 0), .sl [], .sl [], .sl [], .sl []] l i))]) (fun i K => K [(4, (.pv false (.sc (.int .i64 l.length))))] [(16, .row .own 69 9 (rws aP l))]) (fun i => i ≤ l.length) 0 ?hc2 ?h02 ?hs2 ?step2).trans ?r2
  case hc2 => simp; rfl
  case h02 => first | (simp; done) | (simp [*]; done) | exact ⟨by simp, ⟨rfl⟩⟩ | grind | (simp; omega)
  case hs2 => first | (simp; done) | (simp [*]; done)
  case r2 => simp [hg, hr]
  intro k i hi ih
  simp [hg]
  (first | refine ifL_cases (fun h => ?_) (fun h => ?_) | refine gI_cases' (fun h => ?_) (fun h => ?_) | refine gI_cases (fun h => ?_) (fun h => ?_) | refine dI_cases' (fun h => ?_) (fun h => ?_) | refine dI_cases (fun h => ?_) (fun h => ?_)) <;> first | replace h := of_decide_eq_true h | replace h := of_decide_eq_false h | skip
  · have e2 := fillS_set aP [.sc (.int .i64 0), .sl [], .sc (.int .i64 0), .sc (.int .i64 0), .sc (.int .i64 0), .sl [], .sl [], .sl [], .sl []] l i h
    have q := p65 l[i] (ha _ (List.getElem_mem h))
    simp only [aP_eq] at e2
    simp [hg, *]
    try simp (disch := omega) only [wrap_id']
    refine (ih.out (i + 1) _ ?_ ?_ ?_).trans ?_
    · omega
    · omega
    · simp [hg]
    · rfl
  · have e : i = l.length := by omega
    subst e
    simp [hg]
  ) Tryz.f26 Tryz.results26 gl26)
theorem p7 (l : List Act) (same : Int) (hl : l.length ≤ 1048576) (ha : ∀ a ∈ l, ALen a) : phi C0 (lim C0) 7 [.ag [.dv none (rws aP l), (.pv false (.sc (.int .i64 same)))]] [] = some (.ag [.pv false (.sl (rws aP l)), (.pv false (.sc (.int .i64 same)))], []) := call0 Tryz.func7 (by kernel_rfl) ((show ∀ fn : Func, fn.results = #[.cell 2 29] → lim C0 7 fn [.c (code Tryz.f7)] ⟨_, _⟩ = _ from fun fn hr => by
  have p1 := p26 l hl ha
  simp [code, Tryz.f7, hr, p1]
  ) Tryz.f7 Tryz.results7)
theorem p74 (a : Act) (ha : ALen a) (b1 b2 b3 b4 b5 c1 c2 c3 c4 c5 : Bool) : phi C0 (lim C0) 74 [.ag [(.pv false (.sc (.int .i64 a.act))), .pv b1 (.sl (nums .u8 a.addr)), (.pv false (.sc (.int .i64 a.item))), (.pv false (.sc (.int .i64 a.val.kind))), (.pv false (.sc (.int .i64 a.val.n))), .pv b2 (.sl (nums .u8 a.val.s)), .pv b3 (.sl (rws byP a.val.k)), .pv b4 (.sl (rws vP a.val.l)), .pv b5 (.sl (rws byP a.deps))], .ag [(.pv false (.sc (.int .i64 a.act))), .pv c1 (.sl (nums .u8 a.addr)), (.pv false (.sc (.int .i64 a.item))), (.pv false (.sc (.int .i64 a.val.kind))), (.pv false (.sc (.int .i64 a.val.n))), .pv c2 (.sl (nums .u8 a.val.s)), .pv c3 (.sl (rws byP a.val.k)), .pv c4 (.sl (rws vP a.val.l)), .pv c5 (.sl (rws byP a.deps))]] [] = some ((.pv false (.sc (.bool true))), []) := call0 Tryz.func74 (by kernel_rfl) ((show ∀ fn : Func, fn.results = #[.tmp 4] → lim C0 74 fn [.c (code Tryz.f74)] ⟨_, _⟩ = _ from fun fn hr => by
  have p1 := fun b b' => p11 b b' a.addr a.addr (by have : a.addr.length ≤ 1048576 := ha.addr; omega)
  have p2 := fun b1 b2 b3 c1 c2 c3 => eqVal a.val ha.vl b1 b2 b3 c1 c2 c3
  have p3 := fun b b' => p116 b b' a.deps ha.dl
  simp only [eq_self, decide_true] at p1
  simp [code, Tryz.f74, hr, p1, p2, p3]
  ) Tryz.f74 Tryz.results74)
theorem p37 (b b' : Bool) (l : List Act) (hl : l.length ≤ 1048576) (ha : ∀ a ∈ l, ALen a) : phi C0 (lim C0) 37 [.pv b (.sl (rws aP l)), .pv b' (.sl (rws aP l))] [] = some ((.pv false (.sc (.bool true))), []) := call0 Tryz.func37 (by kernel_rfl) ((show ∀ fn : Func, fn.results = #[.tmp 4] → globs fn = [1, 0, 10, 5, 14, 26, 4] → lim C0 37 fn [.c (code Tryz.f37)] ⟨_, _⟩ = _ from fun fn hr hg => by
  have hp6 := plan37_6
  simp [opsOf, code, Tryz.f37] at hp6
  simp [code, Tryz.f37, hr, hg, hp6]
  refine (loop_to (s0 := ?s3) (fun i => l.length - i) (fun i => [(5, (.pv false (.sc (.int .i64 ((i : Nat))))))]) (fun i => []) (fun i K => K [(5, (.pv false (.sc (.int .i64 l.length))))] []) (fun i => i ≤ l.length) 0 ?hc3 ?h03 ?hs3 ?step3).trans ?r3
  case hc3 => simp; rfl
  case h03 => first | (simp; done) | (simp [*]; done) | exact ⟨by simp, ⟨rfl⟩⟩ | grind | (simp; omega)
  case hs3 => first | (simp; done) | (simp [*]; done)
  case r3 => simp [hg, hr]
  intro k i hi ih
  simp [hg]
  (first | refine ifL_cases (fun h => ?_) (fun h => ?_) | refine gI_cases' (fun h => ?_) (fun h => ?_) | refine gI_cases (fun h => ?_) (fun h => ?_) | refine dI_cases' (fun h => ?_) (fun h => ?_) | refine dI_cases (fun h => ?_) (fun h => ?_)) <;> first | replace h := of_decide_eq_true h | replace h := of_decide_eq_false h | skip
  · have q := p74 l[i] (ha _ (List.getElem_mem h))
    simp [hg, h, q, hr, hg, hp6]
    try simp (disch := omega) only [wrap_id']
    refine (ih.out (i + 1) _ ?_ ?_ ?_).trans ?_
    · omega
    · omega
    · simp [hg]
    · rfl
  · have e : i = l.length := by omega
    subst e
    simp [hg]
  ) Tryz.f37 Tryz.results37 gl37)
theorem p10 (b b' : Bool) (l : List Act) (same : Int) (hl : l.length ≤ 1048576) (ha : ∀ a ∈ l, ALen a) : phi C0 (lim C0) 10 [.ag [.pv b (.sl (rws aP l)), (.pv false (.sc (.int .i64 same)))], .ag [.pv b' (.sl (rws aP l)), (.pv false (.sc (.int .i64 same)))]] [] = some ((.pv false (.sc (.bool true))), []) := call0 Tryz.func10 (by kernel_rfl) ((show ∀ fn : Func, fn.results = #[.tmp 4] → lim C0 10 fn [.c (code Tryz.f10)] ⟨_, _⟩ = _ from fun fn hr => by
  have p1 := fun b b' => p37 b b' l hl ha
  simp [code, Tryz.f10, hr, p1]
  ) Tryz.f10 Tryz.results10)
end Go.Proofs.YtgbfmdihmnpcdaaGreatDoor
