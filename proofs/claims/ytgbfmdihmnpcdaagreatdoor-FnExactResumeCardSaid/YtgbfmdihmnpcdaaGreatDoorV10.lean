/- Plans that have a text, by the program. -/
import Derived.Test.YtgbfmdihmnpcdaaGreatDoorV4
namespace Go.Proofs.YtgbfmdihmnpcdaaGreatDoor
open Go Go.Pm Go.Proofs
set_option linter.unusedVariables false
set_option linter.unusedSimpArgs false
set_option maxRecDepth 100000
set_option maxHeartbeats 4000000
structure Act where
 act : Int
 addr : List Int
 item : Int
 val : Val
 deps : List (List Int)
def aP (a : Act) : List PV := [.sc (.int .i64 a.act), .sl (nums .u8 a.addr), .sc (.int .i64 a.item)] ++ vP a.val ++ [.sl (rws byP a.deps)]
@[simp] theorem aP_eq (a : Act) : aP a = [.sc (.int .i64 a.act), .sl (nums .u8 a.addr), .sc (.int .i64 a.item), .sc (.int .i64 a.val.kind), .sc (.int .i64 a.val.n), .sl (nums .u8 a.val.s), .sl (rws byP a.val.k), .sl (rws vP a.val.l), .sl (rws byP a.deps)] := by simp [aP]
structure ALen (a : Act) : Prop where
 addr : lenB a.addr
 vl : VLen a.val
 vp : ptV a.val ≤ 1048577
 dl : lenBB a.deps
structure AOk (a : Act) : Prop where
 addr : lenB a.addr
 addrB : byteOk a.addr = true
 vl : VLen a.val
 vb : VBy a.val
 vp : ptV a.val ≤ 4611686018427387904
 dl : lenBB a.deps
 db : ∀ x ∈ a.deps, byteOk x = true
end Go.Proofs.YtgbfmdihmnpcdaaGreatDoor
namespace Go.Proofs.YtgbfmdihmnpcdaaGreatDoor
open Go Go.Pm Go.Proofs
set_option linter.unusedVariables false
set_option linter.unusedSimpArgs false
set_option maxRecDepth 100000
set_option maxHeartbeats 4000000
structure ABig (a : Act) : Prop where
 addr : a.addr.length ≤ 9223372036854775807
 val : VBig a.val
 deps : a.deps.length ≤ 9223372036854775807
 depsB : ∀ x ∈ a.deps, x.length ≤ 9223372036854775807
def szA (a : Act) (left : Int) : Int := if szL a.addr.length left < 0 then -1 else if szV a.val (szL a.addr.length left) < 0 then -1 else szBB a.deps (szV a.val (szL a.addr.length left))
def szAs : List Act → Int → Int
 | [], left => left
 | a :: l, left => if szA a left < 0 then -1 else szAs l (szA a left)
def szAA (l : List Act) (left : Int) : Int := if szL l.length left < 0 then -1 else szAs l (szL l.length left)
theorem szA_le (a : Act) (left : Int) (h : 0 ≤ left) : szA a left ≤ left ∧ -1 ≤ szA a left := by
 have h1 := szL_le a.addr.length left h
 unfold szA
 split
 · omega
 have h2 := szV_le a.val (szL a.addr.length left) (by omega)
 split
 · omega
 have h3 := szBB_le a.deps (szV a.val (szL a.addr.length left)) (by omega)
 omega
theorem szAs_le : ∀ (l : List Act) (left : Int), 0 ≤ left → szAs l left ≤ left ∧ -1 ≤ szAs l left
 | [], left, h => by simp [szAs]; omega
 | a :: l, left, h => by
  have h1 := szA_le a left h
  rw [szAs]
  split
  · omega
  · have := szAs_le l (szA a left) (by omega)
    omega
theorem szAA_le (l : List Act) (left : Int) (h : 0 ≤ left) : szAA l left ≤ left ∧ -1 ≤ szAA l left := by
 have h1 := szL_le l.length left h
 unfold szAA
 split
 · omega
 · have := szAs_le l (szL l.length left) (by omega)
   omega
theorem szA_ok {a : Act} {left : Int} (h : 0 ≤ left) (h' : left ≤ 1048576) (hs : ¬ szA a left < 0) : ALen a := by
 have h1 := szL_le a.addr.length left h
 unfold szA at hs
 split at hs
 · omega
 rename_i a1
 have b1 := szL_ok a1
 have h2 := szV_le a.val (szL a.addr.length left) (by omega)
 split at hs
 · omega
 rename_i a2
 have b2 := szV_ok a.val _ (by omega) (by omega) a2
 have b3 := szV_pt a.val _ (by omega) a2
 exact ⟨by unfold lenB; omega, b2, by omega, szBB_ok (by omega) (by omega) hs⟩
theorem szAs_ok : ∀ {l : List Act} {left : Int}, 0 ≤ left → left ≤ 1048576 → ¬ szAs l left < 0 → ∀ a ∈ l, ALen a
 | [], _, _, _, _, a, hb => by cases hb
 | x :: l, left, h0, h1, h, a, hb => by
  have h2 := szA_le x left h0
  rw [szAs] at h
  split at h
  · omega
  · rename_i h3
    rcases List.mem_cons.1 hb with rfl | hb
    · exact szA_ok h0 h1 h3
    · exact szAs_ok (by omega) (by omega) h a hb
theorem szAA_ok {l : List Act} {left : Int} (h : 0 ≤ left) (h' : left ≤ 1048576) (hs : ¬ szAA l left < 0) : l.length ≤ 1048576 ∧ ∀ a ∈ l, ALen a := by
 have h1 := szL_le l.length left h
 unfold szAA at hs
 split at hs
 · omega
 · rename_i a3
   have b3 := szL_ok a3
   exact ⟨by omega, szAs_ok (by omega) (by omega) hs⟩
theorem szAs_at {l : List Act} {i : Nat} {left : Int} (h : i < l.length) : szAs (l.drop i) left = if szA l[i] left < 0 then -1 else szAs (l.drop (i + 1)) (szA l[i] left) := by rw [drop_at h, szAs]
theorem p57 (a : Act) (left : Int) (h0 : 0 ≤ left) (h1 : left ≤ 1048576) (ha : ABig a) : phi C0 (lim C0) 57 [.ag [(iv a.act), .pv false (.sl (nums .u8 a.addr)), (iv a.item), (iv a.val.kind), (iv a.val.n), .pv false (.sl (nums .u8 a.val.s)), .pv false (.sl (rws byP a.val.k)), .pv false (.sl (rws vP a.val.l)), .pv false (.sl (rws byP a.deps))], (iv left)] [] = some ((iv (szA a left)), []) := call0 Tryz.func57 (by kernel_rfl) ((show ∀ fn : Func, fn.results = #[.tmp 4] → lim C0 57 fn [.c (code Tryz.f57)] ⟨_, _⟩ = _ from fun fn hr => by
 have p1 := fun b => p80 b (nums .u8 a.addr) left h0 h1 (by simpa using ha.addr)
 have hz := szL_le a.addr.length left h0
 simp only [rws_len] at p1
 unfold szA
 simp [code, Tryz.f57, hr, p1]
 (first | refine ifL_cases (fun h => ?_) (fun h => ?_) | refine gI_cases' (fun h => ?_) (fun h => ?_) | refine gI_cases (fun h => ?_) (fun h => ?_) | refine dI_cases' (fun h => ?_) (fun h => ?_) | refine dI_cases (fun h => ?_) (fun h => ?_)) <;> first | replace h := of_decide_eq_true h | replace h := of_decide_eq_false h | skip
 · simp [hr, h]
 rw [if_neg h]
 have p2 := fun b1 b2 b3 => szVal a.val ha.val b1 b2 b3 (szL a.addr.length left) (by omega) (by omega)
 have hz2 := szV_le a.val (szL a.addr.length left) (by omega)
 simp [p2]
 (first | refine ifL_cases (fun h => ?_) (fun h => ?_) | refine gI_cases' (fun h => ?_) (fun h => ?_) | refine gI_cases (fun h => ?_) (fun h => ?_) | refine dI_cases' (fun h => ?_) (fun h => ?_) | refine dI_cases (fun h => ?_) (fun h => ?_)) <;> first | replace h := of_decide_eq_true h | replace h := of_decide_eq_false h | skip
 · simp [hr, h]
 rw [if_neg h]
 have p3 := fun b => p100 b a.deps (szV a.val (szL a.addr.length left)) (by omega) (by omega) ha.deps ha.depsB
 have hz3 := szBB_le a.deps (szV a.val (szL a.addr.length left)) (by omega)
 simp [p3]
 (first | refine ifL_cases (fun h => ?_) (fun h => ?_) | refine gI_cases' (fun h => ?_) (fun h => ?_) | refine gI_cases (fun h => ?_) (fun h => ?_) | refine dI_cases' (fun h => ?_) (fun h => ?_) | refine dI_cases (fun h => ?_) (fun h => ?_)) <;> first | replace h := of_decide_eq_true h | replace h := of_decide_eq_false h | skip
 · simp [hr]; omega
 · simp [hr]
 ) Tryz.f57 Tryz.results57)
theorem p22 (b : Bool) (l : List Act) (left : Int) (h0 : 0 ≤ left) (h1 : left ≤ 1048576) (hl : l.length ≤ 9223372036854775807) (ha : ∀ a ∈ l, ABig a) : phi C0 (lim C0) 22 [.pv b (.sl (rws aP l)), (iv left)] [] = some ((iv (szAA l left)), []) := call0 Tryz.func22 (by kernel_rfl) ((show ∀ fn : Func, fn.results = #[.tmp 4] → globs fn = [0, 1, 11, 5, 15, 25, 4] → lim C0 22 fn [.c (code Tryz.f22)] ⟨_, _⟩ = _ from fun fn hr hg => by
 have hw : IntKind.i64.wrap (left - (l.length : Int)) = left - l.length := wrap_id' (by omega)
 simp [code, Tryz.f22, hr, hg, hw]
 (first | refine ifL_cases (fun h => ?_) (fun h => ?_) | refine gI_cases' (fun h => ?_) (fun h => ?_) | refine gI_cases (fun h => ?_) (fun h => ?_) | refine dI_cases' (fun h => ?_) (fun h => ?_) | refine dI_cases (fun h => ?_) (fun h => ?_)) <;> first | replace h := of_decide_eq_true h | replace h := of_decide_eq_false h | skip
 · simp [hg, hr, szAA, szL, h]
 · have hL : szL l.length left = left - l.length := by unfold szL; rw [if_neg h]
   unfold szAA
   rw [hL, if_neg h]
   simp [hg]
   refine (loop_to (s0 := ?s1) (fun x => l.length - x.1) (fun x => [(5, (iv ((x.1 : Nat)))), (1, (iv x.2))]) (fun x => []) (fun x K => (if szAs (l.drop x.1) x.2 < 0 then some ((iv (-1)), []) else K [(5, (iv l.length)), (1, (iv (szAs (l.drop x.1) x.2)))] [])) (fun x => x.1 ≤ l.length ∧ 0 ≤ x.2 ∧ x.2 ≤ 1048576) ((0 : Nat), left - (l.length : Int)) ?hc1 ?h01 ?hs1 ?step1).trans ?r1
   case hc1 => simp; rfl
   case h01 => first | (simp; done) | (simp [*]; done) | exact ⟨by simp, ⟨rfl⟩⟩ | grind | (simp; omega)
   case hs1 => first | (simp; done) | (simp [*]; done)
   case r1 =>
    have := szAs_le l (left - l.length) (by omega)
    simp [hg, hr]
    grind
   rintro k ⟨i, lf⟩ ⟨hi, h2, h3⟩ ih
   simp at hi h2 h3
   simp [hg]
   (first | refine ifL_cases (fun h => ?_) (fun h => ?_) | refine gI_cases' (fun h => ?_) (fun h => ?_) | refine gI_cases (fun h => ?_) (fun h => ?_) | refine dI_cases' (fun h => ?_) (fun h => ?_) | refine dI_cases (fun h => ?_) (fun h => ?_)) <;> first | replace h := of_decide_eq_true h | replace h := of_decide_eq_false h | skip
   · have hlt := h
     have q := p57 l[i] lf h2 h3 (ha _ (List.getElem_mem hlt))
     have hz := szA_le l[i] lf h2
     simp [hg, hlt, q, hr, hg]
     (first | refine ifL_cases (fun h => ?_) (fun h => ?_) | refine gI_cases' (fun h => ?_) (fun h => ?_) | refine gI_cases (fun h => ?_) (fun h => ?_) | refine dI_cases' (fun h => ?_) (fun h => ?_) | refine dI_cases (fun h => ?_) (fun h => ?_)) <;> first | replace h := of_decide_eq_true h | replace h := of_decide_eq_false h | skip
     · simp [hg, hr, szAs_at hlt, h]
     · rw [szAs_at hlt, if_neg h]
       simp [hg]
       try simp (disch := omega) only [wrap_id']
       refine (ih.out (i + 1, szA l[i] lf) _ ?_ ?_ ?_).trans ?_
       · simp [hg]; omega
       · simp [hg]; omega
       · simp [hg]
       · simp [hg]
   · have e : i = l.length := by omega
     subst e
     simp [hg, szAs]
     grind
 ) Tryz.f22 Tryz.results22 gl22)
theorem p5 (b : Bool) (l : List Act) (same left : Int) (h0 : 0 ≤ left) (h1 : left ≤ 1048576) (hl : l.length ≤ 9223372036854775807) (ha : ∀ a ∈ l, ABig a) : phi C0 (lim C0) 5 [.ag [.pv b (.sl (rws aP l)), (iv same)], (iv left)] [] = some ((iv (szAA l left)), []) := call0 Tryz.func5 (by kernel_rfl) ((show ∀ fn : Func, fn.results = #[.tmp 4] → lim C0 5 fn [.c (code Tryz.f5)] ⟨_, _⟩ = _ from fun fn hr => by
 have p1 := fun b => p22 b l left h0 h1 hl ha
 have hz := szAA_le l left h0
 simp [code, Tryz.f5, hr, p1]
 (first | refine ifL_cases (fun h => ?_) (fun h => ?_) | refine gI_cases' (fun h => ?_) (fun h => ?_) | refine gI_cases (fun h => ?_) (fun h => ?_) | refine dI_cases' (fun h => ?_) (fun h => ?_) | refine dI_cases (fun h => ?_) (fun h => ?_)) <;> first | replace h := of_decide_eq_true h | replace h := of_decide_eq_false h | skip
 · simp [hr]; omega
 · simp [hr]
 ) Tryz.f5 Tryz.results5)
end Go.Proofs.YtgbfmdihmnpcdaaGreatDoor
