/- Histories: what the laws measure, copy, compare and write over. -/
import Derived.Test.YtgbfmdihmnpcdaaGreatDoorRU7
import Derived.Test.YtgbfmdihmnpcdaaGreatDoorRW4
namespace Go.Proofs.YtgbfmdihmnpcdaaGreatDoor
open Go Go.Pm Go.Proofs
set_option linter.unusedVariables false
set_option linter.unusedSimpArgs false
set_option maxRecDepth 100000
set_option maxHeartbeats 4000000
@[simp] theorem eP_eq (e : Ev) : eP e = [.sc (.int .i64 e.kind), .sl (nums .u8 e.addr), .sc (.int .i64 e.act), .sc (.int .i64 e.val.kind), .sc (.int .i64 e.val.n), .sl (nums .u8 e.val.s), .sl (rws byP e.val.k), .sl (rws vP e.val.l), .sl (rws byP e.deps)] := rfl
def eAs (l : List Ev) : List Act := l.map eA
@[simp] theorem eAs_nil : eAs [] = [] := rfl
@[simp] theorem eAs_len (l : List Ev) : (eAs l).length = l.length := by simp [eAs]
theorem eAs_at {l : List Ev} {i : Nat} (h : i < (eAs l).length) : (eAs l)[i] = eA (l[i]'(by simpa using h)) := by simp [eAs]
theorem eAs_take (l : List Ev) (i : Nat) : eAs (l.take i) = (eAs l).take i := by simp [eAs, List.map_take]
theorem eAs_mem {l : List Ev} {P : Act → Prop} (h : ∀ a ∈ eAs l, P a) : ∀ x ∈ l, P (eA x) := fun x hx => h _ (List.mem_map.2 ⟨x, hx, rfl⟩)
theorem szEs_at {l : List Ev} {i : Nat} {left : Int} (h : i < l.length) : szAs (eAs (l.drop i)) left = if szA (eA l[i]) left < 0 then -1 else szAs (eAs (l.drop (i + 1))) (szA (eA l[i]) left) := by
 rw [drop_at h]; rfl
theorem p41 (b : Bool) (l : List Ev) (left : Int) (h0 : 0 ≤ left) (h1 : left ≤ 1048576) (hl : l.length ≤ 9223372036854775807) (ha : ∀ x ∈ l, ABig (eA x)) : phi C0 (lim C0) 41 [.pv b (.sl (rws eP l)), (iv left)] [] = some ((iv (szAA (eAs l) left)), []) := call0 Tryz.func41 (by kernel_rfl) ((show ∀ fn : Func, fn.results = #[.tmp 4] → globs fn = [0, 1, 11, 5, 15, 25, 4] → lim C0 41 fn [.c (code Tryz.f41)] ⟨_, _⟩ = _ from fun fn hr hg => by
 have hw : IntKind.i64.wrap (left - (l.length : Int)) = left - l.length := wrap_id' (by omega)
 simp [code, Tryz.f41, hr, hg, hw]
 (first | refine ifL_cases (fun h => ?_) (fun h => ?_) | refine gI_cases' (fun h => ?_) (fun h => ?_) | refine gI_cases (fun h => ?_) (fun h => ?_) | refine dI_cases' (fun h => ?_) (fun h => ?_) | refine dI_cases (fun h => ?_) (fun h => ?_)) <;> first | replace h := of_decide_eq_true h | replace h := of_decide_eq_false h | skip
 · simp [hg, hr, szAA, szL, h]
 · have hL : szL l.length left = left - l.length := by unfold szL; rw [if_neg h]
   unfold szAA
   rw [eAs_len, hL, if_neg h]
   simp [hg]
   refine (loop_to (s0 := ?s1) (fun x => l.length - x.1) (fun x => [(5, (iv ((x.1 : Nat)))), (1, (iv x.2))]) (fun x => []) (fun x K => (if szAs (eAs (l.drop x.1)) x.2 < 0 then some ((iv (-1)), []) else K [(5, (iv l.length)), (1, (iv (szAs (eAs (l.drop x.1)) x.2)))] [])) (fun x => x.1 ≤ l.length ∧ 0 ≤ x.2 ∧ x.2 ≤ 1048576) ((0 : Nat), left - (l.length : Int)) ?hc1 ?h01 ?hs1 ?step1).trans ?r1
   case hc1 => simp; rfl
   case h01 => first | (simp; done) | (simp [*]; done) | exact ⟨by simp, ⟨rfl⟩⟩ | grind | (simp; omega)
   case hs1 => first | (simp; done) | (simp [*]; done)
   case r1 =>
    have := szAs_le (eAs l) (left - l.length) (by omega)
    simp [hg, hr]
    grind
   rintro k ⟨i, lf⟩ ⟨hi, h2, h3⟩ ih
   simp at hi h2 h3
   simp [hg]
   (first | refine ifL_cases (fun h => ?_) (fun h => ?_) | refine gI_cases' (fun h => ?_) (fun h => ?_) | refine gI_cases (fun h => ?_) (fun h => ?_) | refine dI_cases' (fun h => ?_) (fun h => ?_) | refine dI_cases (fun h => ?_) (fun h => ?_)) <;> first | replace h := of_decide_eq_true h | replace h := of_decide_eq_false h | skip
   · have hlt := h
     have q := p82 l[i] lf h2 h3 (ha _ (List.getElem_mem hlt))
     have hz := szA_le (eA l[i]) lf h2
     simp [hg, hlt, q, hr, hg]
     (first | refine ifL_cases (fun h => ?_) (fun h => ?_) | refine gI_cases' (fun h => ?_) (fun h => ?_) | refine gI_cases (fun h => ?_) (fun h => ?_) | refine dI_cases' (fun h => ?_) (fun h => ?_) | refine dI_cases (fun h => ?_) (fun h => ?_)) <;> first | replace h := of_decide_eq_true h | replace h := of_decide_eq_false h | skip
     · simp [hg, hr, szEs_at hlt, h]
     · rw [szEs_at hlt, if_neg h]
       simp [hg]
       try simp (disch := omega) only [wrap_id']
       refine (ih.out (i + 1, szA (eA l[i]) lf) _ ?_ ?_ ?_).trans ?_
       · simp [hg]; omega
       · simp [hg]; omega
       · simp [hg]
       · simp [hg]
   · have e : i = l.length := by omega
     subst e
     simp [hg, szAs]
     grind
 ) Tryz.f41 Tryz.results41 gl41)
theorem p47 (l : List Ev) (hl : l.length ≤ 1048576) (ha : ∀ x ∈ l, ALen (eA x)) : phi C0 (lim C0) 47 [.dv none (rws eP l)] [] = some (.pv false (.sl (rws eP l)), []) := call0 Tryz.func47 (by kernel_rfl) ((show ∀ fn : Func, fn.results = #[.tmp 2] → globs fn = [0, 4, 11, 3, 2] → lim C0 47 fn [.c (code Tryz.f47)] ⟨_, _⟩ = _ from fun fn hr hg => by
 have g1 : l.length * 152 ≤ Pm.roomBytes := by unfold Pm.roomBytes; omega
 have g2 : (l.length : Int) ≤ 9223372036854775807 := by omega
 simp [code, Tryz.f47, hr, hg, g1, g2]
 refine (loop_to (s0 := ?s2) (fun i => l.length - i) (fun i => [(4, (iv ((i : Nat))))]) (fun i => [(16, .row .own 126 9 (fillS eP [.sc (.int .i64 0), .sl [], .sc (.int .i64 0), .sc (.int .i64 0), .sc (.int .i64 0), .sl [], .sl [], .sl [], .sl []] l i))]) (fun i K => K [(4, (iv l.length))] [(16, .row .own 126 9 (rws eP l))]) (fun i => i ≤ l.length) 0 ?hc2 ?h02 ?hs2 ?step2).trans ?r2
 case hc2 => simp; rfl
 case h02 => first | (simp; done) | (simp [*]; done) | exact ⟨by simp, ⟨rfl⟩⟩ | grind | (simp; omega)
 case hs2 => first | (simp; done) | (simp [*]; done)
 case r2 => simp [hg, hr]
 intro k i hi ih
 simp [hg]
 (first | refine ifL_cases (fun h => ?_) (fun h => ?_) | refine gI_cases' (fun h => ?_) (fun h => ?_) | refine gI_cases (fun h => ?_) (fun h => ?_) | refine dI_cases' (fun h => ?_) (fun h => ?_) | refine dI_cases (fun h => ?_) (fun h => ?_)) <;> first | replace h := of_decide_eq_true h | replace h := of_decide_eq_false h | skip
 · have e2 := fillS_set eP [.sc (.int .i64 0), .sl [], .sc (.int .i64 0), .sc (.int .i64 0), .sc (.int .i64 0), .sl [], .sl [], .sl [], .sl []] l i h
   have q := p90 l[i] (ha _ (List.getElem_mem h))
   simp only [eP_eq] at e2
   simp [hg, *]
   try simp (disch := omega) only [wrap_id']
   refine (ih.out (i + 1) _ ?_ ?_ ?_).trans ?_
   · omega
   · omega
   · simp [hg]
   · rfl
 · have e : i = l.length := by omega
   subst e
   simp [hg]
 ) Tryz.f47 Tryz.results47 gl47)
theorem p52 (b b' : Bool) (l : List Ev) (hl : l.length ≤ 1048576) (ha : ∀ x ∈ l, ALen (eA x)) : phi C0 (lim C0) 52 [.pv b (.sl (rws eP l)), .pv b' (.sl (rws eP l))] [] = some ((bv true), []) := call0 Tryz.func52 (by kernel_rfl) ((show ∀ fn : Func, fn.results = #[.tmp 4] → globs fn = [1, 0, 10, 5, 14, 26, 4] → lim C0 52 fn [.c (code Tryz.f52)] ⟨_, _⟩ = _ from fun fn hr hg => by
 have hp6 := plan52_6
 simp [opsOf, code, Tryz.f52] at hp6
 simp [code, Tryz.f52, hr, hg, hp6]
 refine (loop_to (s0 := ?s3) (fun i => l.length - i) (fun i => [(5, (iv ((i : Nat))))]) (fun i => []) (fun i K => K [(5, (iv l.length))] []) (fun i => i ≤ l.length) 0 ?hc3 ?h03 ?hs3 ?step3).trans ?r3
 case hc3 => simp; rfl
 case h03 => first | (simp; done) | (simp [*]; done) | exact ⟨by simp, ⟨rfl⟩⟩ | grind | (simp; omega)
 case hs3 => first | (simp; done) | (simp [*]; done)
 case r3 => simp [hg, hr]
 intro k i hi ih
 simp [hg]
 (first | refine ifL_cases (fun h => ?_) (fun h => ?_) | refine gI_cases' (fun h => ?_) (fun h => ?_) | refine gI_cases (fun h => ?_) (fun h => ?_) | refine dI_cases' (fun h => ?_) (fun h => ?_) | refine dI_cases (fun h => ?_) (fun h => ?_)) <;> first | replace h := of_decide_eq_true h | replace h := of_decide_eq_false h | skip
 · have q := p96 l[i] (ha _ (List.getElem_mem h))
   simp [hg, h, q, hr, hg, hp6]
   try simp (disch := omega) only [wrap_id']
   refine (ih.out (i + 1) _ ?_ ?_ ?_).trans ?_
   · omega
   · omega
   · simp [hg]
   · rfl
 · have e : i = l.length := by omega
   subst e
   simp [hg]
 ) Tryz.f52 Tryz.results52 gl52)
theorem p54 (l : List Ev) (k : Int) (h0 : 0 ≤ k) (h1 : k + mkAs (eAs l) ≤ 4611686018427387904) (h2 : ∀ x ∈ l, ALen (eA x)) (hl : l.length ≤ 1048576) : phi C0 (lim C0) 54 [.dv (some 0) (rws eP l), (iv k)] [(0, .dat false)] = some ((iv (k + mkAs (eAs l))), [(0, .dat false)]) := call0 Tryz.func54 (by kernel_rfl) ((show ∀ fn : Func, fn.results = #[.tmp 4] → globs fn = [0, 5, 9, 1, 4] → lim C0 54 fn [.c (code Tryz.f54)] ⟨_, _⟩ = _ from fun fn hr hg => by
 simp [code, Tryz.f54, hr, hg]
 refine (loop_to (s0 := ?s4) (fun i => l.length - i) (fun i => [(5, (iv ((i : Nat)))), (1, (iv (k + (mkAs (eAs (l.take i)) : Nat))))]) (fun i => [(0, .dat false)]) (fun i K => K [(5, (iv l.length)), (1, (iv (k + mkAs (eAs l))))] [(0, .dat false)]) (fun i => i ≤ l.length) 0 ?hc4 ?h04 ?hs4 ?step4).trans ?r4
 case hc4 => simp; rfl
 case h04 => first | (simp; done) | (simp [*]; done) | exact ⟨by simp, ⟨rfl⟩⟩ | grind | (simp; omega)
 case hs4 => first | (simp; done) | (simp [*]; done)
 case r4 => simp [hg, hr]
 intro n i hi ih
 simp [hg]
 (first | refine ifL_cases (fun h => ?_) (fun h => ?_) | refine gI_cases' (fun h => ?_) (fun h => ?_) | refine gI_cases (fun h => ?_) (fun h => ?_) | refine dI_cases' (fun h => ?_) (fun h => ?_) | refine dI_cases (fun h => ?_) (fun h => ?_)) <;> first | replace h := of_decide_eq_true h | replace h := of_decide_eq_false h | skip
 · have hlt := h
   have e1 : mkAs (eAs (l.take (i + 1))) = mkAs (eAs (l.take i)) + mkA (eA l[i]) := by
    rw [eAs_take, eAs_take, mkAs_at (by simpa using hlt), eAs_at]
   have e2 : mkAs (eAs (l.take (i + 1))) ≤ mkAs (eAs l) := by rw [eAs_take]; exact mkAs_le _ _
   have e3 : mkA (eA l[i]) = 4 + l[i].addr.length + l[i].val.s.length + mkBs l[i].val.k + mkVs l[i].val.l + mkBs l[i].deps := rfl
   have ha := h2 _ (List.getElem_mem hlt)
   have hv : VLen l[i].val := ha.vl
   have hd : l[i].deps.length ≤ 1048576 := ha.dl.1
   generalize mkAs (eAs (l.take i)) = M at *
   have q1 := p13 l[i].addr (k + (M : Nat) + 1) (by omega) (by omega)
   have q2 := p13 l[i].val.s (k + (M : Nat) + 1 + l[i].addr.length + 1 + 1 + 1) (by omega) (by omega)
   have q3 := p75 l[i].val.k (k + (M : Nat) + 1 + l[i].addr.length + 1 + 1 + 1 + l[i].val.s.length) (by omega) (by omega) (by have := hv.here.2.1.1; omega)
   have q4 := pMarkV l[i].val hv (k + (M : Nat) + 1 + l[i].addr.length + 1 + 1 + 1 + l[i].val.s.length + mkBs l[i].val.k) (by omega) (by omega)
   have q5 := p75 l[i].deps (k + (M : Nat) + 1 + l[i].addr.length + 1 + 1 + 1 + l[i].val.s.length + mkBs l[i].val.k + mkVs l[i].val.l) (by omega) (by omega) (by omega)
   simp [hg, hlt, hr, hg]
   try simp (disch := omega) only [wrap_id']
   simp [hg, hlt, q1]
   try simp (disch := omega) only [wrap_id']
   simp [hg, hlt, q2]
   try simp (disch := omega) only [wrap_id']
   simp [hg, hlt, q3]
   try simp (disch := omega) only [wrap_id']
   simp [hg, hlt, q4]
   try simp (disch := omega) only [wrap_id']
   simp [hg, hlt, q5]
   try simp (disch := omega) only [wrap_id']
   refine (ih.out (i + 1) _ ?_ ?_ ?_).trans ?_
   · omega
   · omega
   · simp [hg, e1, e3]; omega
   · rfl
 · have e : i = l.length := by omega
   subst e
   simp [hg]
 ) Tryz.f54 Tryz.results54 gl54)
structure His where
 base : Sta
 evs : List Ev
 safe : Int
def szH (h : His) (left : Int) : Int := if szS h.base left < 0 then -1 else szAA (eAs h.evs) (szS h.base left)
theorem szS_le (s : Sta) (left : Int) (h0 : 0 ≤ left) : szS s left ≤ left := by
 unfold szS
 have hz := szL_le s.pend.length left h0
 split
 · omega
 · have := szAA_le (nAs s.ents) (szL s.pend.length left) (by omega)
   omega
theorem p15 (x : His) (left : Int) (h0 : 0 ≤ left) (h1 : left ≤ 1048576) (hp : x.base.pend.length ≤ 9223372036854775807) (hl : x.base.ents.length ≤ 9223372036854775807) (ha : ∀ y ∈ x.base.ents, ABig (nA y)) (hel : x.evs.length ≤ 9223372036854775807) (hea : ∀ y ∈ x.evs, ABig (eA y)) : phi C0 (lim C0) 15 [.ag [(iv x.base.serial), (bv x.base.opn), .pv false (.sl (nums .u8 x.base.pend)), (iv x.base.act), .pv false (.sl (rws nP x.base.ents)), .pv false (.sl (rws eP x.evs)), (iv x.safe)], (iv left)] [] = some ((iv (szH x left)), []) := call0 Tryz.func15 (by kernel_rfl) ((show ∀ fn : Func, fn.results = #[.tmp 4] → lim C0 15 fn [.c (code Tryz.f15)] ⟨_, _⟩ = _ from fun fn hr => by
 have p1 := p40 x.base left h0 h1 hp hl ha
 have hz := szS_le x.base left h0
 unfold szH
 simp [code, Tryz.f15, hr, p1]
 (first | refine ifL_cases (fun h => ?_) (fun h => ?_) | refine gI_cases' (fun h => ?_) (fun h => ?_) | refine gI_cases (fun h => ?_) (fun h => ?_) | refine dI_cases' (fun h => ?_) (fun h => ?_) | refine dI_cases (fun h => ?_) (fun h => ?_)) <;> first | replace h := of_decide_eq_true h | replace h := of_decide_eq_false h | skip
 · simp [hr, h]
 rw [if_neg h]
 have p2 := fun b => p41 b x.evs (szS x.base left) (by omega) (by omega) hel hea
 have hz2 := szAA_le (eAs x.evs) (szS x.base left) (by omega)
 simp [p2]
 (first | refine ifL_cases (fun h => ?_) (fun h => ?_) | refine gI_cases' (fun h => ?_) (fun h => ?_) | refine gI_cases (fun h => ?_) (fun h => ?_) | refine dI_cases' (fun h => ?_) (fun h => ?_) | refine dI_cases (fun h => ?_) (fun h => ?_)) <;> first | replace h := of_decide_eq_true h | replace h := of_decide_eq_false h | skip
 · simp [hr]; omega
 · simp [hr]
 ) Tryz.f15 Tryz.results15)
theorem p17 (h : His) (hp : h.base.pend.length ≤ 1048576) (hl : h.base.ents.length ≤ 1048576) (ha : ∀ x ∈ h.base.ents, ALen (nA x)) (hel : h.evs.length ≤ 1048576) (hea : ∀ x ∈ h.evs, ALen (eA x)) : phi C0 (lim C0) 17 [.ag [(iv h.base.serial), (bv h.base.opn), .dv none (nums .u8 h.base.pend), (iv h.base.act), .dv none (rws nP h.base.ents), .dv none (rws eP h.evs), (iv h.safe)]] [] = some (.ag [(iv h.base.serial), (bv h.base.opn), .pv false (.sl (nums .u8 h.base.pend)), (iv h.base.act), .pv false (.sl (rws nP h.base.ents)), .pv false (.sl (rws eP h.evs)), (iv h.safe)], []) := call0 Tryz.func17 (by kernel_rfl) ((show ∀ fn : Func, fn.results = #[.cell 2 51] → lim C0 17 fn [.c (code Tryz.f17)] ⟨_, _⟩ = _ from fun fn hr => by
 have p1 := p46 h.base hp hl ha
 have p2 := p47 h.evs hel hea
 simp [code, Tryz.f17, hr, p1, p2]
 ) Tryz.f17 Tryz.results17)
theorem p19 (h : His) (b1 b2 b3 c1 c2 c3 : Bool) (hp : h.base.pend.length ≤ 1048576) (hl : h.base.ents.length ≤ 1048576) (ha : ∀ x ∈ h.base.ents, ALen (nA x)) (hel : h.evs.length ≤ 1048576) (hea : ∀ x ∈ h.evs, ALen (eA x)) : phi C0 (lim C0) 19 [.ag [(iv h.base.serial), (bv h.base.opn), .pv b1 (.sl (nums .u8 h.base.pend)), (iv h.base.act), .pv b2 (.sl (rws nP h.base.ents)), .pv b3 (.sl (rws eP h.evs)), (iv h.safe)], .ag [(iv h.base.serial), (bv h.base.opn), .pv c1 (.sl (nums .u8 h.base.pend)), (iv h.base.act), .pv c2 (.sl (rws nP h.base.ents)), .pv c3 (.sl (rws eP h.evs)), (iv h.safe)]] [] = some ((bv true), []) := call0 Tryz.func19 (by kernel_rfl) ((show ∀ fn : Func, fn.results = #[.tmp 4] → lim C0 19 fn [.c (code Tryz.f19)] ⟨_, _⟩ = _ from fun fn hr => by
 have p1 := fun b1 b2 c1 c2 => p51 h.base b1 b2 c1 c2 hp hl ha
 have p2 := fun b b' => p52 b b' h.evs hel hea
 simp [code, Tryz.f19, hr, p1, p2]
 ) Tryz.f19 Tryz.results19)
theorem p20 (h : His) (k : Int) (h0 : 0 ≤ k) (h1 : k + h.base.pend.length + mkAs (nAs h.base.ents) + mkAs (eAs h.evs) ≤ 4611686018427387904) (h2 : ∀ x ∈ h.base.ents, ALen (nA x)) (hl : h.base.ents.length ≤ 1048576) (h3 : ∀ x ∈ h.evs, ALen (eA x)) (hel : h.evs.length ≤ 1048576) : phi C0 (lim C0) 20 [.ag [(iv h.base.serial), (bv h.base.opn), .dv (some 0) (nums .u8 h.base.pend), (iv h.base.act), .dv (some 0) (rws nP h.base.ents), .dv (some 0) (rws eP h.evs), (iv h.safe)], (iv k)] [(0, .dat false)] = some ((iv (k + h.base.pend.length + mkAs (nAs h.base.ents) + mkAs (eAs h.evs))), [(0, .dat false)]) := call0 Tryz.func20 (by kernel_rfl) ((show ∀ fn : Func, fn.results = #[.tmp 4] → lim C0 20 fn [.c (code Tryz.f20)] ⟨_, _⟩ = _ from fun fn hr => by
 have q1 := p53 h.base.serial h.base.opn h.base.pend h.base.act h.base.ents k (by omega) (by omega) h2 hl
 have q2 := p54 h.evs (k + h.base.pend.length + mkAs (nAs h.base.ents)) (by omega) (by omega) h3 hel
 simp [code, Tryz.f20, hr, q1, q2]
 ) Tryz.f20 Tryz.results20)
end Go.Proofs.YtgbfmdihmnpcdaaGreatDoor
