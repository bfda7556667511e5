/- States: what the laws measure, copy, compare and write over. -/
import Derived.Test.YtgbfmdihmnpcdaaGreatDoorRU2
namespace Go.Proofs.YtgbfmdihmnpcdaaGreatDoor
open Go Go.Pm Go.Proofs
set_option linter.unusedVariables false
set_option linter.unusedSimpArgs false
set_option maxRecDepth 100000
set_option maxHeartbeats 4000000
structure En where
 addr : List Int
 val : Val
 deps : List (List Int)
 taint : Bool
 turned : Int
def nP (x : En) : List PV := [.sl (nums .u8 x.addr)] ++ vP x.val ++ [.sl (rws byP x.deps), .sc (.bool x.taint), .sc (.int .i64 x.turned)]
@[simp] theorem nP_eq (x : En) : nP x = [.sl (nums .u8 x.addr), .sc (.int .i64 x.val.kind), .sc (.int .i64 x.val.n), .sl (nums .u8 x.val.s), .sl (rws byP x.val.k), .sl (rws vP x.val.l), .sl (rws byP x.deps), .sc (.bool x.taint), .sc (.int .i64 x.turned)] := by simp [nP]
def nA (x : En) : Act := ⟨0, x.addr, 0, x.val, x.deps⟩
def nAs (l : List En) : List Act := l.map nA
@[simp] theorem nAs_nil : nAs [] = [] := rfl
@[simp] theorem nAs_len (l : List En) : (nAs l).length = l.length := by simp [nAs]
theorem nAs_at {l : List En} {i : Nat} (h : i < (nAs l).length) : (nAs l)[i] = nA (l[i]'(by simpa using h)) := by simp [nAs]
theorem nAs_take (l : List En) (i : Nat) : nAs (l.take i) = (nAs l).take i := by simp [nAs, List.map_take]
theorem nAs_mem {l : List En} {P : Act → Prop} (h : ∀ a ∈ nAs l, P a) : ∀ x ∈ l, P (nA x) := fun x hx => h _ (List.mem_map.2 ⟨x, hx, rfl⟩)
theorem szNs_at {l : List En} {i : Nat} {left : Int} (h : i < l.length) : szAs (nAs (l.drop i)) left = if szA (nA l[i]) left < 0 then -1 else szAs (nAs (l.drop (i + 1))) (szA (nA l[i]) left) := by
 rw [drop_at h]; rfl
theorem p117 (x : En) (left : Int) (h0 : 0 ≤ left) (h1 : left ≤ 1048576) (ha : ABig (nA x)) : phi C0 (lim C0) 117 [.ag [.pv false (.sl (nums .u8 x.addr)), (iv x.val.kind), (iv x.val.n), .pv false (.sl (nums .u8 x.val.s)), .pv false (.sl (rws byP x.val.k)), .pv false (.sl (rws vP x.val.l)), .pv false (.sl (rws byP x.deps)), (bv x.taint), (iv x.turned)], (iv left)] [] = some ((iv (szA (nA x) left)), []) := call0 Tryz.func117 (by kernel_rfl) ((show ∀ fn : Func, fn.results = #[.tmp 4] → lim C0 117 fn [.c (code Tryz.f117)] ⟨_, _⟩ = _ from fun fn hr => by
 have p1 := fun b => p80 b (nums .u8 x.addr) left h0 h1 (by have : x.addr.length ≤ 9223372036854775807 := ha.addr; simpa using this)
 have hz := szL_le x.addr.length left h0
 simp only [rws_len] at p1
 have e0 : szA (nA x) left = if szL x.addr.length left < 0 then -1 else if szV x.val (szL x.addr.length left) < 0 then -1 else szBB x.deps (szV x.val (szL x.addr.length left)) := rfl
 rw [e0]
 simp [code, Tryz.f117, hr, p1]
 (first | refine ifL_cases (fun h => ?_) (fun h => ?_) | refine gI_cases' (fun h => ?_) (fun h => ?_) | refine gI_cases (fun h => ?_) (fun h => ?_) | refine dI_cases' (fun h => ?_) (fun h => ?_) | refine dI_cases (fun h => ?_) (fun h => ?_)) <;> first | replace h := of_decide_eq_true h | replace h := of_decide_eq_false h | skip
 · simp [hr, h]
 rw [if_neg h]
 have p2 := fun b1 b2 b3 => szVal x.val ha.val b1 b2 b3 (szL x.addr.length left) (by omega) (by omega)
 have hz2 := szV_le x.val (szL x.addr.length left) (by omega)
 simp [p2]
 (first | refine ifL_cases (fun h => ?_) (fun h => ?_) | refine gI_cases' (fun h => ?_) (fun h => ?_) | refine gI_cases (fun h => ?_) (fun h => ?_) | refine dI_cases' (fun h => ?_) (fun h => ?_) | refine dI_cases (fun h => ?_) (fun h => ?_)) <;> first | replace h := of_decide_eq_true h | replace h := of_decide_eq_false h | skip
 · simp [hr, h]
 rw [if_neg h]
 have p3 := fun b => p100 b x.deps (szV x.val (szL x.addr.length left)) (by omega) (by omega) ha.deps ha.depsB
 have hz3 := szBB_le x.deps (szV x.val (szL x.addr.length left)) (by omega)
 simp [p3]
 (first | refine ifL_cases (fun h => ?_) (fun h => ?_) | refine gI_cases' (fun h => ?_) (fun h => ?_) | refine gI_cases (fun h => ?_) (fun h => ?_) | refine dI_cases' (fun h => ?_) (fun h => ?_) | refine dI_cases (fun h => ?_) (fun h => ?_)) <;> first | replace h := of_decide_eq_true h | replace h := of_decide_eq_false h | skip
 · simp [hr]; omega
 · simp [hr]
 ) Tryz.f117 Tryz.results117)
theorem p81 (b : Bool) (l : List En) (left : Int) (h0 : 0 ≤ left) (h1 : left ≤ 1048576) (hl : l.length ≤ 9223372036854775807) (ha : ∀ x ∈ l, ABig (nA x)) : phi C0 (lim C0) 81 [.pv b (.sl (rws nP l)), (iv left)] [] = some ((iv (szAA (nAs l) left)), []) := call0 Tryz.func81 (by kernel_rfl) ((show ∀ fn : Func, fn.results = #[.tmp 4] → globs fn = [0, 1, 11, 5, 15, 25, 4] → lim C0 81 fn [.c (code Tryz.f81)] ⟨_, _⟩ = _ from fun fn hr hg => by
 have hw : IntKind.i64.wrap (left - (l.length : Int)) = left - l.length := wrap_id' (by omega)
 simp [code, Tryz.f81, hr, hg, hw]
 (first | refine ifL_cases (fun h => ?_) (fun h => ?_) | refine gI_cases' (fun h => ?_) (fun h => ?_) | refine gI_cases (fun h => ?_) (fun h => ?_) | refine dI_cases' (fun h => ?_) (fun h => ?_) | refine dI_cases (fun h => ?_) (fun h => ?_)) <;> first | replace h := of_decide_eq_true h | replace h := of_decide_eq_false h | skip
 · simp [hg, hr, szAA, szL, h]
 · have hL : szL l.length left = left - l.length := by unfold szL; rw [if_neg h]
   unfold szAA
   rw [nAs_len, hL, if_neg h]
   simp [hg]
   refine (loop_to (s0 := ?s1) (fun x => l.length - x.1) (fun x => [(5, (iv ((x.1 : Nat)))), (1, (iv x.2))]) (fun x => []) (fun x K => (if szAs (nAs (l.drop x.1)) x.2 < 0 then some ((iv (-1)), []) else K [(5, (iv l.length)), (1, (iv (szAs (nAs (l.drop x.1)) x.2)))] [])) (fun x => x.1 ≤ l.length ∧ 0 ≤ x.2 ∧ x.2 ≤ 1048576) ((0 : Nat), left - (l.length : Int)) ?hc1 ?h01 ?hs1 ?step1).trans ?r1
   case hc1 => simp; rfl
   case h01 => first | (simp; done) | (simp [*]; done) | exact ⟨by simp, ⟨rfl⟩⟩ | grind | (simp; omega)
   case hs1 => first | (simp; done) | (simp [*]; done)
   case r1 =>
    have := szAs_le (nAs l) (left - l.length) (by omega)
    simp [hg, hr]
    grind
   rintro k ⟨i, lf⟩ ⟨hi, h2, h3⟩ ih
   simp at hi h2 h3
   simp [hg]
   (first | refine ifL_cases (fun h => ?_) (fun h => ?_) | refine gI_cases' (fun h => ?_) (fun h => ?_) | refine gI_cases (fun h => ?_) (fun h => ?_) | refine dI_cases' (fun h => ?_) (fun h => ?_) | refine dI_cases (fun h => ?_) (fun h => ?_)) <;> first | replace h := of_decide_eq_true h | replace h := of_decide_eq_false h | skip
   · have hlt := h
     have q := p117 l[i] lf h2 h3 (ha _ (List.getElem_mem hlt))
     have hz := szA_le (nA l[i]) lf h2
     simp [hg, hlt, q, hr, hg]
     (first | refine ifL_cases (fun h => ?_) (fun h => ?_) | refine gI_cases' (fun h => ?_) (fun h => ?_) | refine gI_cases (fun h => ?_) (fun h => ?_) | refine dI_cases' (fun h => ?_) (fun h => ?_) | refine dI_cases (fun h => ?_) (fun h => ?_)) <;> first | replace h := of_decide_eq_true h | replace h := of_decide_eq_false h | skip
     · simp [hg, hr, szNs_at hlt, h]
     · rw [szNs_at hlt, if_neg h]
       simp [hg]
       try simp (disch := omega) only [wrap_id']
       refine (ih.out (i + 1, szA (nA l[i]) lf) _ ?_ ?_ ?_).trans ?_
       · simp [hg]; omega
       · simp [hg]; omega
       · simp [hg]
       · simp [hg]
   · have e : i = l.length := by omega
     subst e
     simp [hg, szAs]
     grind
 ) Tryz.f81 Tryz.results81 gl81)
structure Sta where
 serial : Int
 opn : Bool
 pend : List Int
 act : Int
 ents : List En
def szS (s : Sta) (left : Int) : Int := if szL s.pend.length left < 0 then -1 else szAA (nAs s.ents) (szL s.pend.length left)
theorem p40 (s : Sta) (left : Int) (h0 : 0 ≤ left) (h1 : left ≤ 1048576) (hp : s.pend.length ≤ 9223372036854775807) (hl : s.ents.length ≤ 9223372036854775807) (ha : ∀ x ∈ s.ents, ABig (nA x)) : phi C0 (lim C0) 40 [.ag [(iv s.serial), (bv s.opn), .pv false (.sl (nums .u8 s.pend)), (iv s.act), .pv false (.sl (rws nP s.ents))], (iv left)] [] = some ((iv (szS s left)), []) := call0 Tryz.func40 (by kernel_rfl) ((show ∀ fn : Func, fn.results = #[.tmp 4] → lim C0 40 fn [.c (code Tryz.f40)] ⟨_, _⟩ = _ from fun fn hr => by
 have p1 := fun b => p80 b (nums .u8 s.pend) left h0 h1 (by simpa using hp)
 have hz := szL_le s.pend.length left h0
 simp only [rws_len] at p1
 unfold szS
 simp [code, Tryz.f40, hr, p1]
 (first | refine ifL_cases (fun h => ?_) (fun h => ?_) | refine gI_cases' (fun h => ?_) (fun h => ?_) | refine gI_cases (fun h => ?_) (fun h => ?_) | refine dI_cases' (fun h => ?_) (fun h => ?_) | refine dI_cases (fun h => ?_) (fun h => ?_)) <;> first | replace h := of_decide_eq_true h | replace h := of_decide_eq_false h | skip
 · simp [hr, h]
 rw [if_neg h]
 have p2 := fun b => p81 b s.ents (szL s.pend.length left) (by omega) (by omega) hl ha
 have hz2 := szAA_le (nAs s.ents) (szL s.pend.length left) (by omega)
 simp [p2]
 (first | refine ifL_cases (fun h => ?_) (fun h => ?_) | refine gI_cases' (fun h => ?_) (fun h => ?_) | refine gI_cases (fun h => ?_) (fun h => ?_) | refine dI_cases' (fun h => ?_) (fun h => ?_) | refine dI_cases (fun h => ?_) (fun h => ?_)) <;> first | replace h := of_decide_eq_true h | replace h := of_decide_eq_false h | skip
 · simp [hr]; omega
 · simp [hr]
 ) Tryz.f40 Tryz.results40)
theorem p125 (x : En) (ha : ALen (nA x)) : phi C0 (lim C0) 125 [.ag [.dv none ((nums .u8 x.addr)), (iv x.val.kind), (iv x.val.n), .dv none ((nums .u8 x.val.s)), .dv none ((rws byP x.val.k)), .dv none ((rws vP x.val.l)), .dv none ((rws byP x.deps)), (bv x.taint), (iv x.turned)]] [] = some (.ag [.pv false (.sl (nums .u8 x.addr)), (iv x.val.kind), (iv x.val.n), .pv false (.sl (nums .u8 x.val.s)), .pv false (.sl (rws byP x.val.k)), .pv false (.sl (rws vP x.val.l)), .pv false (.sl (rws byP x.deps)), (bv x.taint), (iv x.turned)], []) := call0 Tryz.func125 (by kernel_rfl) ((show ∀ fn : Func, fn.results = #[.cell 2 162] → lim C0 125 fn [.c (code Tryz.f125)] ⟨_, _⟩ = _ from fun fn hr => by
 have p1 := p8 x.addr ha.addr
 have p2 := toV x.val ha.vl
 have p3 := p105 x.deps ha.dl
 simp [code, Tryz.f125, hr, p1, p2, p3]
 ) Tryz.f125 Tryz.results125)
theorem p89 (l : List En) (hl : l.length ≤ 1048576) (ha : ∀ x ∈ l, ALen (nA x)) : phi C0 (lim C0) 89 [.dv none (rws nP l)] [] = some (.pv false (.sl (rws nP l)), []) := call0 Tryz.func89 (by kernel_rfl) ((show ∀ fn : Func, fn.results = #[.tmp 2] → globs fn = [0, 4, 11, 3, 2] → lim C0 89 fn [.c (code Tryz.f89)] ⟨_, _⟩ = _ from fun fn hr hg => by
 have g1 : l.length * 152 ≤ Pm.roomBytes := by unfold Pm.roomBytes; omega
 have g2 : (l.length : Int) ≤ 9223372036854775807 := by omega
 simp [code, Tryz.f89, hr, hg, g1, g2]
 refine (loop_to (s0 := ?s2) (fun i => l.length - i) (fun i => [(4, (iv ((i : Nat))))]) (fun i => [(16, .row .own 162 9 (fillS nP [.sl [], .sc (.int .i64 0), .sc (.int .i64 0), .sl [], .sl [], .sl [], .sl [], .sc (.bool false), .sc (.int .i64 0)] l i))]) (fun i K => K [(4, (iv l.length))] [(16, .row .own 162 9 (rws nP l))]) (fun i => i ≤ l.length) 0 ?hc2 ?h02 ?hs2 ?step2).trans ?r2
 case hc2 => simp; rfl
 case h02 => first | (simp; done) | (simp [*]; done) | exact ⟨by simp, ⟨rfl⟩⟩ | grind | (simp; omega)
 case hs2 => first | (simp; done) | (simp [*]; done)
 case r2 => simp [hg, hr]
 intro k i hi ih
 simp [hg]
 (first | refine ifL_cases (fun h => ?_) (fun h => ?_) | refine gI_cases' (fun h => ?_) (fun h => ?_) | refine gI_cases (fun h => ?_) (fun h => ?_) | refine dI_cases' (fun h => ?_) (fun h => ?_) | refine dI_cases (fun h => ?_) (fun h => ?_)) <;> first | replace h := of_decide_eq_true h | replace h := of_decide_eq_false h | skip
 · have e2 := fillS_set nP [.sl [], .sc (.int .i64 0), .sc (.int .i64 0), .sl [], .sl [], .sl [], .sl [], .sc (.bool false), .sc (.int .i64 0)] l i h
   have q := p125 l[i] (ha _ (List.getElem_mem h))
   simp only [nP_eq] at e2
   simp [hg, *]
   try simp (disch := omega) only [wrap_id']
   refine (ih.out (i + 1) _ ?_ ?_ ?_).trans ?_
   · omega
   · omega
   · simp [hg]
   · rfl
 · have e : i = l.length := by omega
   subst e
   simp [hg]
 ) Tryz.f89 Tryz.results89 gl89)
theorem p46 (s : Sta) (hp : s.pend.length ≤ 1048576) (hl : s.ents.length ≤ 1048576) (ha : ∀ x ∈ s.ents, ALen (nA x)) : phi C0 (lim C0) 46 [.ag [(iv s.serial), (bv s.opn), .dv none (nums .u8 s.pend), (iv s.act), .dv none (rws nP s.ents)]] [] = some (.ag [(iv s.serial), (bv s.opn), .pv false (.sl (nums .u8 s.pend)), (iv s.act), .pv false (.sl (rws nP s.ents))], []) := call0 Tryz.func46 (by kernel_rfl) ((show ∀ fn : Func, fn.results = #[.cell 2 48] → lim C0 46 fn [.c (code Tryz.f46)] ⟨_, _⟩ = _ from fun fn hr => by
 have p1 := p8 s.pend hp
 have p2 := p89 s.ents hl ha
 simp [code, Tryz.f46, hr, p1, p2]
 ) Tryz.f46 Tryz.results46)
theorem p132 (x : En) (ha : ALen (nA x)) (b1 b2 b3 b4 b5 c1 c2 c3 c4 c5 : Bool) : phi C0 (lim C0) 132 [.ag [.pv b1 (.sl (nums .u8 x.addr)), (iv x.val.kind), (iv x.val.n), .pv b2 (.sl (nums .u8 x.val.s)), .pv b3 (.sl (rws byP x.val.k)), .pv b4 (.sl (rws vP x.val.l)), .pv b5 (.sl (rws byP x.deps)), (bv x.taint), (iv x.turned)], .ag [.pv c1 (.sl (nums .u8 x.addr)), (iv x.val.kind), (iv x.val.n), .pv c2 (.sl (nums .u8 x.val.s)), .pv c3 (.sl (rws byP x.val.k)), .pv c4 (.sl (rws vP x.val.l)), .pv c5 (.sl (rws byP x.deps)), (bv x.taint), (iv x.turned)]] [] = some ((bv true), []) := call0 Tryz.func132 (by kernel_rfl) ((show ∀ fn : Func, fn.results = #[.tmp 4] → lim C0 132 fn [.c (code Tryz.f132)] ⟨_, _⟩ = _ from fun fn hr => by
 have p1 := fun b b' => p11 b b' x.addr x.addr (by have : x.addr.length ≤ 1048576 := ha.addr; omega)
 have p2 := fun b1 b2 b3 c1 c2 c3 => eqVal x.val ha.vl b1 b2 b3 c1 c2 c3
 have p3 := fun b b' => p116 b b' x.deps ha.dl
 simp only [eq_self, decide_true] at p1
 simp [code, Tryz.f132, hr, p1, p2, p3]
 ) Tryz.f132 Tryz.results132)
theorem p95 (b b' : Bool) (l : List En) (hl : l.length ≤ 1048576) (ha : ∀ x ∈ l, ALen (nA x)) : phi C0 (lim C0) 95 [.pv b (.sl (rws nP l)), .pv b' (.sl (rws nP l))] [] = some ((bv true), []) := call0 Tryz.func95 (by kernel_rfl) ((show ∀ fn : Func, fn.results = #[.tmp 4] → globs fn = [1, 0, 10, 5, 14, 26, 4] → lim C0 95 fn [.c (code Tryz.f95)] ⟨_, _⟩ = _ from fun fn hr hg => by
 have hp6 := plan95_6
 simp [opsOf, code, Tryz.f95] at hp6
 simp [code, Tryz.f95, hr, hg, hp6]
 refine (loop_to (s0 := ?s3) (fun i => l.length - i) (fun i => [(5, (iv ((i : Nat))))]) (fun i => []) (fun i K => K [(5, (iv l.length))] []) (fun i => i ≤ l.length) 0 ?hc3 ?h03 ?hs3 ?step3).trans ?r3
 case hc3 => simp; rfl
 case h03 => first | (simp; done) | (simp [*]; done) | exact ⟨by simp, ⟨rfl⟩⟩ | grind | (simp; omega)
 case hs3 => first | (simp; done) | (simp [*]; done)
 case r3 => simp [hg, hr]
 intro k i hi ih
 simp [hg]
 (first | refine ifL_cases (fun h => ?_) (fun h => ?_) | refine gI_cases' (fun h => ?_) (fun h => ?_) | refine gI_cases (fun h => ?_) (fun h => ?_) | refine dI_cases' (fun h => ?_) (fun h => ?_) | refine dI_cases (fun h => ?_) (fun h => ?_)) <;> first | replace h := of_decide_eq_true h | replace h := of_decide_eq_false h | skip
 · have q := p132 l[i] (ha _ (List.getElem_mem h))
   simp [hg, h, q, hr, hg, hp6]
   try simp (disch := omega) only [wrap_id']
   refine (ih.out (i + 1) _ ?_ ?_ ?_).trans ?_
   · omega
   · omega
   · simp [hg]
   · rfl
 · have e : i = l.length := by omega
   subst e
   simp [hg]
 ) Tryz.f95 Tryz.results95 gl95)
theorem p51 (s : Sta) (b1 b2 c1 c2 : Bool) (hp : s.pend.length ≤ 1048576) (hl : s.ents.length ≤ 1048576) (ha : ∀ x ∈ s.ents, ALen (nA x)) : phi C0 (lim C0) 51 [.ag [(iv s.serial), (bv s.opn), .pv b1 (.sl (nums .u8 s.pend)), (iv s.act), .pv b2 (.sl (rws nP s.ents))], .ag [(iv s.serial), (bv s.opn), .pv c1 (.sl (nums .u8 s.pend)), (iv s.act), .pv c2 (.sl (rws nP s.ents))]] [] = some ((bv true), []) := call0 Tryz.func51 (by kernel_rfl) ((show ∀ fn : Func, fn.results = #[.tmp 4] → lim C0 51 fn [.c (code Tryz.f51)] ⟨_, _⟩ = _ from fun fn hr => by
 have p1 := fun b b' => p11 b b' s.pend s.pend (by omega)
 have p2 := fun b b' => p95 b b' s.ents hl ha
 simp only [eq_self, decide_true] at p1
 simp [code, Tryz.f51, hr, p1, p2]
 ) Tryz.f51 Tryz.results51)
theorem p97 (l : List En) (k : Int) (h0 : 0 ≤ k) (h1 : k + mkAs (nAs l) ≤ 4611686018427387904) (h2 : ∀ x ∈ l, ALen (nA x)) (hl : l.length ≤ 1048576) : phi C0 (lim C0) 97 [.dv (some 0) (rws nP l), (iv k)] [(0, .dat false)] = some ((iv (k + mkAs (nAs l))), [(0, .dat false)]) := call0 Tryz.func97 (by kernel_rfl) ((show ∀ fn : Func, fn.results = #[.tmp 4] → globs fn = [0, 5, 9, 1, 4] → lim C0 97 fn [.c (code Tryz.f97)] ⟨_, _⟩ = _ from fun fn hr hg => by
 simp [code, Tryz.f97, hr, hg]
 refine (loop_to (s0 := ?s4) (fun i => l.length - i) (fun i => [(5, (iv ((i : Nat)))), (1, (iv (k + (mkAs (nAs (l.take i)) : Nat))))]) (fun i => [(0, .dat false)]) (fun i K => K [(5, (iv l.length)), (1, (iv (k + mkAs (nAs l))))] [(0, .dat false)]) (fun i => i ≤ l.length) 0 ?hc4 ?h04 ?hs4 ?step4).trans ?r4
 case hc4 => simp; rfl
 case h04 => first | (simp; done) | (simp [*]; done) | exact ⟨by simp, ⟨rfl⟩⟩ | grind | (simp; omega)
 case hs4 => first | (simp; done) | (simp [*]; done)
 case r4 => simp [hg, hr]
 intro n i hi ih
 simp [hg]
 (first | refine ifL_cases (fun h => ?_) (fun h => ?_) | refine gI_cases' (fun h => ?_) (fun h => ?_) | refine gI_cases (fun h => ?_) (fun h => ?_) | refine dI_cases' (fun h => ?_) (fun h => ?_) | refine dI_cases (fun h => ?_) (fun h => ?_)) <;> first | replace h := of_decide_eq_true h | replace h := of_decide_eq_false h | skip
 · have hlt := h
   have e1 : mkAs (nAs (l.take (i + 1))) = mkAs (nAs (l.take i)) + mkA (nA l[i]) := by
    rw [nAs_take, nAs_take, mkAs_at (by simpa using hlt), nAs_at]
   have e2 : mkAs (nAs (l.take (i + 1))) ≤ mkAs (nAs l) := by rw [nAs_take]; exact mkAs_le _ _
   have e3 : mkA (nA l[i]) = 4 + l[i].addr.length + l[i].val.s.length + mkBs l[i].val.k + mkVs l[i].val.l + mkBs l[i].deps := rfl
   have ha := h2 _ (List.getElem_mem hlt)
   have hv : VLen l[i].val := ha.vl
   have hd : l[i].deps.length ≤ 1048576 := ha.dl.1
   generalize mkAs (nAs (l.take i)) = M at *
   have q1 := p13 l[i].addr (k + (M : Nat)) (by omega) (by omega)
   have q2 := p13 l[i].val.s (k + (M : Nat) + l[i].addr.length + 1 + 1) (by omega) (by omega)
   have q3 := p75 l[i].val.k (k + (M : Nat) + l[i].addr.length + 1 + 1 + l[i].val.s.length) (by omega) (by omega) (by have := hv.here.2.1.1; omega)
   have q4 := pMarkV l[i].val hv (k + (M : Nat) + l[i].addr.length + 1 + 1 + l[i].val.s.length + mkBs l[i].val.k) (by omega) (by omega)
   have q5 := p75 l[i].deps (k + (M : Nat) + l[i].addr.length + 1 + 1 + l[i].val.s.length + mkBs l[i].val.k + mkVs l[i].val.l) (by omega) (by omega) (by omega)
   have q6 := bin_rem (.int .i64) .i64 (k + (M : Nat) + l[i].addr.length + 1 + 1 + l[i].val.s.length + mkBs l[i].val.k + mkVs l[i].val.l + mkBs l[i].deps) 3 (by decide)
   simp [hg, hlt, q1, hr, hg]
   try simp (disch := omega) only [wrap_id']
   simp [hg, hlt, q2]
   try simp (disch := omega) only [wrap_id']
   simp [hg, hlt, q3]
   try simp (disch := omega) only [wrap_id']
   simp [hg, hlt, q4]
   try simp (disch := omega) only [wrap_id']
   simp [hg, hlt, q5]
   try simp (disch := omega) only [wrap_id']
   simp [hg, hlt, q6]
   try simp (disch := omega) only [wrap_id']
   refine (ih.out (i + 1) _ ?_ ?_ ?_).trans ?_
   · omega
   · omega
   · simp [hg, e1, e3]; omega
   · rfl
 · have e : i = l.length := by omega
   subst e
   simp [hg]
 ) Tryz.f97 Tryz.results97 gl97)
end Go.Proofs.YtgbfmdihmnpcdaaGreatDoor
namespace Go.Proofs.YtgbfmdihmnpcdaaGreatDoor
open Go Go.Pm Go.Proofs
set_option linter.unusedVariables false
set_option linter.unusedSimpArgs false
set_option maxRecDepth 100000
set_option maxHeartbeats 4000000
theorem p53 (serial : Int) (opn : Bool) (pend : List Int) (act : Int) (ents : List En) (k : Int) (h0 : 0 ≤ k) (h1 : k + pend.length + mkAs (nAs ents) ≤ 4611686018427387904) (h2 : ∀ x ∈ ents, ALen (nA x)) (hl : ents.length ≤ 1048576) : phi C0 (lim C0) 53 [.ag [(iv serial), (bv opn), .dv (some 0) (nums .u8 pend), (iv act), .dv (some 0) (rws nP ents)], (iv k)] [(0, .dat false)] = some ((iv (k + pend.length + mkAs (nAs ents))), [(0, .dat false)]) := call0 Tryz.func53 (by kernel_rfl) ((show ∀ fn : Func, fn.results = #[.tmp 4] → lim C0 53 fn [.c (code Tryz.f53)] ⟨_, _⟩ = _ from fun fn hr => by
 have q1 := p13 pend k (by omega) (by omega)
 have q2 := p97 ents (k + pend.length) (by omega) (by omega) h2 hl
 simp [code, Tryz.f53, hr, q1, q2]
 ) Tryz.f53 Tryz.results53)
end Go.Proofs.YtgbfmdihmnpcdaaGreatDoor
