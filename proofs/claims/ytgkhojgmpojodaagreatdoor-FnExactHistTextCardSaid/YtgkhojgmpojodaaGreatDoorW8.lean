/- An entry is looked for, by the program. -/
import Derived.Test.YtgkhojgmpojodaaGreatDoorW3
import Derived.Test.YtgkhojgmpojodaaGreatDoorW5
namespace Go.Proofs.YtgkhojgmpojodaaGreatDoor
open Go Go.Pm Go.Proofs
set_option linter.unusedVariables false
set_option linter.unusedSimpArgs false
set_option maxRecDepth 100000
set_option maxHeartbeats 4000000
/-- Where an address is looked for, among entries that ascend. -/
theorem bin_shr1 (x : Nat) (h : x < 18446744073709551616) : binSc (.int .u64) .shr (.int .u64 (x : Int)) (.int .u64 1) = some (.int .u64 ((x / 2 : Nat) : Int)) := by
  simp [binSc, binOp, Op.shift, pureSem]
  rw [show min 1 IntKind.u64.bits = 1 from rfl]
  show some (Value.int .u64 ((x : Int).fdiv (2 ^ 1))) = _
  rw [Int.fdiv_eq_ediv_of_nonneg _ (by decide)]
  rfl
def bsN (a : List Int) (l : List En) (i j : Nat) : Nat := if i < j then (match l[(i + j) / 2]? with
    | some x => if cmpB x.addr a < 0 then bsN a l ((i + j) / 2 + 1) j else bsN a l i ((i + j) / 2)
    | none => i) else i
termination_by j - i
decreasing_by
  all_goals omega
def fdN (a : List Int) (l : List En) (i : Nat) : Bool := match l[i]? with
  | some x => decide (cmpB x.addr a = 0)
  | none => false
theorem p208 (x : En) (a : List Int) (b : Bool) (hx : byteOk x.addr = true) (ha : byteOk a = true) : phi C0 (lim C0) 208 [.ag [.pv false (.sl (nums .u8 x.addr)), (.pv false (.sc (.int .i64 x.val.kind))), (.pv false (.sc (.int .i64 x.val.n))), .pv false (.sl (nums .u8 x.val.s)), .pv false (.sl (rws byP x.val.k)), .pv false (.sl (rws vP x.val.l)), .pv false (.sl (rws byP x.deps)), (.pv false (.sc (.bool x.taint))), (.pv false (.sc (.int .i64 x.turned)))], .pv b (.sl (nums .u8 a))] [] = some ((.pv false (.sc (.int .i64 (cmpB x.addr a)))), []) := call0 Tryz.func208 (by kernel_rfl) ((show ∀ fn : Func, fn.results = #[.tmp 4] → lim C0 208 fn [.c (code Tryz.f208)] ⟨_, _⟩ = _ from fun fn hr => by
  have q := fun b b' => p147 b b' x.addr a hx ha
  simp [code, Tryz.f208, hr, q]
  ) Tryz.f208 Tryz.results208)
theorem p207 (b b' b'' : Bool) (l : List En) (a : List Int) (hl : l.length ≤ 1048576) (hx : ∀ x ∈ l, byteOk x.addr = true) (ha : byteOk a = true) : phi C0 (lim C0) 207 [.pv b (.sl (rws nP l)), .pv b' (.sl (nums .u8 a)), .pv b'' (.cl 208 [])] [] = some (.tu [(.pv false (.sc (.int .i64 ((bsN a l 0 l.length : Nat))))), (.pv false (.sc (.bool (fdN a l (bsN a l 0 l.length)))))], []) := call0 Tryz.func207 (by kernel_rfl) ((show ∀ fn : Func, fn.results = #[.tmp 6, .tmp 7] → globs fn = [0, 8, 10, 9, 17, 1, 11, 2, 31, 6, 7] → lim C0 207 fn [.c (code Tryz.f207)] ⟨_, _⟩ = _ from fun fn hr hg => by
  have hp2 := plan207_2
  simp [opsOf, code, Tryz.f207] at hp2
  have hp8 := plan207_8
  simp [opsOf, code, Tryz.f207] at hp8
  simp [code, Tryz.f207, hr, hg, hp2, hp8]
  refine (loop_to (s0 := ?s1) (fun x => x.2 - x.1) (fun x => [(9, (.pv false (.sc (.int .i64 ((x.1 : Nat)))))), (10, (.pv false (.sc (.int .i64 ((x.2 : Nat))))))]) (fun x => []) (fun x K => K [(9, (.pv false (.sc (.int .i64 ((bsN a l x.1 x.2 : Nat)))))), (10, (.pv false (.sc (.int .i64 ((bsN a l x.1 x.2 : Nat))))))] []) (fun x => x.1 ≤ x.2 ∧ x.2 ≤ l.length) ((0 : Nat), l.length) ?hc1 ?h01 ?hs1 ?step1).trans ?r1
  case hc1 => simp; rfl
  case h01 => first | (simp; done) | (simp [*]; done) | exact ⟨by simp, ⟨rfl⟩⟩ | grind | (simp; omega)
  case hs1 => first | (simp; done) | (simp [*]; done)
  case r1 =>
    generalize bsN a l 0 l.length = r at *
    simp [hr, hg, hp2, hp8]
    by_cases h : r < l.length
    · have q := p208 l[r] a b' (hx _ (List.getElem_mem h)) ha
      simp [hg, h, q, fdN, hr, hg, hp2, hp8]
    · have e : l[r]? = none := List.getElem?_eq_none (by omega)
      simp [hg, h, fdN, e, hr, hg, hp2, hp8]
  rintro k ⟨i, j⟩ ⟨hi, hj⟩ ih
  simp at hi hj
  simp [hg]
  rw [bsN]
  (first | refine ifL_cases (fun h => ?_) (fun h => ?_) | refine gI_cases' (fun h => ?_) (fun h => ?_) | refine gI_cases (fun h => ?_) (fun h => ?_) | refine dI_cases' (fun h => ?_) (fun h => ?_) | refine dI_cases (fun h => ?_) (fun h => ?_)) <;> first | replace h := of_decide_eq_true h | replace h := of_decide_eq_false h | skip
  · have hlt : i < j := h
    rw [if_pos hlt]
    have hm : (i + j) / 2 < l.length := by omega
    have em : l[(i + j) / 2]? = some l[(i + j) / 2] := List.getElem?_eq_getElem hm
    rw [em]
    have w1 : IntKind.i64.wrap ((i : Int) + j) = i + j := wrap_id' (by omega)
    have w2 : IntKind.u64.wrap ((i : Int) + j) = ((i + j : Nat) : Int) := by rw [wrap_u64 (by omega)]; simp [hg]
    have w3 := bin_shr1 (i + j) (by omega)
    have w4 : IntKind.i64.wrap (((i + j) / 2 : Nat) : Int) = (((i + j) / 2 : Nat) : Int) := wrap_id' (by omega)
    have w5 : IntKind.i64.wrap ((((i + j) / 2 : Nat) : Int) + 1) = (((i + j) / 2 + 1 : Nat) : Int) := by rw [wrap_id' (by omega)]; simp [hg]
    have q := p208 l[(i + j) / 2] a b' (hx _ (List.getElem_mem hm)) ha
    have m1 : i ≤ (i + j) / 2 := by omega
    have m2 : (i + j) / 2 < j := by omega
    generalize (i + j) / 2 = m at *
    simp only [Int.natCast_add] at w2 w3
    simp [hg, hlt, w1, w2, w3, w4, hm, q, hr, hg, hp2, hp8]
    (first | refine ifL_cases (fun h => ?_) (fun h => ?_) | refine gI_cases' (fun h => ?_) (fun h => ?_) | refine gI_cases (fun h => ?_) (fun h => ?_) | refine dI_cases' (fun h => ?_) (fun h => ?_) | refine dI_cases (fun h => ?_) (fun h => ?_)) <;> first | replace h := of_decide_eq_true h | replace h := of_decide_eq_false h | skip
    · simp [hg, w5, h, hr, hg, hp2, hp8]
      refine (ih.out (m + 1, j) _ ?_ ?_ ?_).trans ?_
      · simp [hg]; omega
      · simp [hg]; omega
      · simp [hg]
      · simp [hg]
    · simp [hg, h, hr, hg, hp2, hp8]
      refine (ih.out (i, m) _ ?_ ?_ ?_).trans ?_
      · simp [hg]; omega
      · simp [hg]; omega
      · simp [hg]
      · simp [hg]
  · rw [if_neg h]
    have : i = j := by omega
    subst this
    simp [hg]
  ) Tryz.f207 Tryz.results207 gl207)
theorem p148 (serial : Int) (opn : Bool) (pend : List Int) (act : Int) (ents : List En) (a : List Int) (b : Bool) (hl : ents.length ≤ 1048576) (hx : ∀ x ∈ ents, byteOk x.addr = true) (ha : byteOk a = true) (b0 : Bool) : phi C0 (lim C0) 148 [.ag [(.pv false (.sc (.int .i64 serial))), (.pv false (.sc (.bool opn))), .pv false (.sl (nums .u8 pend)), (.pv false (.sc (.int .i64 act))), .pv b0 (.sl (rws nP ents))], .pv b (.sl (nums .u8 a))] [] = some (.tu [(.pv false (.sc (.int .i64 ((bsN a ents 0 ents.length : Nat))))), (.pv false (.sc (.bool (fdN a ents (bsN a ents 0 ents.length)))))], []) := call0 Tryz.func148 (by kernel_rfl) ((show ∀ fn : Func, fn.results = #[.tmp 4, .tmp 5] → lim C0 148 fn [.c (code Tryz.f148)] ⟨_, _⟩ = _ from fun fn hr => by
  have q := fun b b' b'' => p207 b b' b'' ents a hl hx ha
  simp [code, Tryz.f148, hr, q]
  ) Tryz.f148 Tryz.results148)
end Go.Proofs.YtgkhojgmpojodaaGreatDoor
