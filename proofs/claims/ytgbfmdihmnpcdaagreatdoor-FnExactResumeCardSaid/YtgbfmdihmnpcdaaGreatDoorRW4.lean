/- Events: what the laws measure, copy, compare and write over. -/
import Derived.Test.YtgbfmdihmnpcdaaGreatDoorRW3
import Derived.Test.YtgbfmdihmnpcdaaGreatDoorRU2
namespace Go.Proofs.YtgbfmdihmnpcdaaGreatDoor
open Go Go.Pm Go.Proofs
set_option linter.unusedVariables false
set_option linter.unusedSimpArgs false
set_option maxRecDepth 100000
set_option maxHeartbeats 4000000
def eA (e : Ev) : Act := ⟨0, e.addr, 0, e.val, e.deps⟩
theorem p82 (e : Ev) (left : Int) (h0 : 0 ≤ left) (h1 : left ≤ 1048576) (ha : ABig (eA e)) : phi C0 (lim C0) 82 [.ag [(iv e.kind), .pv false (.sl (nums .u8 e.addr)), (iv e.act), (iv e.val.kind), (iv e.val.n), .pv false (.sl (nums .u8 e.val.s)), .pv false (.sl (rws byP e.val.k)), .pv false (.sl (rws vP e.val.l)), .pv false (.sl (rws byP e.deps))], (iv left)] [] = some ((iv (szA (eA e) left)), []) := call0 Tryz.func82 (by kernel_rfl) ((show ∀ fn : Func, fn.results = #[.tmp 4] → lim C0 82 fn [.c (code Tryz.f82)] ⟨_, _⟩ = _ from fun fn hr => by
 have p1 := fun b => p80 b (nums .u8 e.addr) left h0 h1 (by have : e.addr.length ≤ 9223372036854775807 := ha.addr; simpa using this)
 have hz := szL_le e.addr.length left h0
 simp only [rws_len] at p1
 have e0 : szA (eA e) left = if szL e.addr.length left < 0 then -1 else if szV e.val (szL e.addr.length left) < 0 then -1 else szBB e.deps (szV e.val (szL e.addr.length left)) := rfl
 rw [e0]
 simp [code, Tryz.f82, hr, p1]
 (first | refine ifL_cases (fun h => ?_) (fun h => ?_) | refine gI_cases' (fun h => ?_) (fun h => ?_) | refine gI_cases (fun h => ?_) (fun h => ?_) | refine dI_cases' (fun h => ?_) (fun h => ?_) | refine dI_cases (fun h => ?_) (fun h => ?_)) <;> first | replace h := of_decide_eq_true h | replace h := of_decide_eq_false h | skip
 · simp [hr, h]
 rw [if_neg h]
 have p2 := fun b1 b2 b3 => szVal e.val ha.val b1 b2 b3 (szL e.addr.length left) (by omega) (by omega)
 have hz2 := szV_le e.val (szL e.addr.length left) (by omega)
 simp [p2]
 (first | refine ifL_cases (fun h => ?_) (fun h => ?_) | refine gI_cases' (fun h => ?_) (fun h => ?_) | refine gI_cases (fun h => ?_) (fun h => ?_) | refine dI_cases' (fun h => ?_) (fun h => ?_) | refine dI_cases (fun h => ?_) (fun h => ?_)) <;> first | replace h := of_decide_eq_true h | replace h := of_decide_eq_false h | skip
 · simp [hr, h]
 rw [if_neg h]
 have p3 := fun b => p100 b e.deps (szV e.val (szL e.addr.length left)) (by omega) (by omega) ha.deps ha.depsB
 have hz3 := szBB_le e.deps (szV e.val (szL e.addr.length left)) (by omega)
 simp [p3]
 (first | refine ifL_cases (fun h => ?_) (fun h => ?_) | refine gI_cases' (fun h => ?_) (fun h => ?_) | refine gI_cases (fun h => ?_) (fun h => ?_) | refine dI_cases' (fun h => ?_) (fun h => ?_) | refine dI_cases (fun h => ?_) (fun h => ?_)) <;> first | replace h := of_decide_eq_true h | replace h := of_decide_eq_false h | skip
 · simp [hr]; omega
 · simp [hr]
 ) Tryz.f82 Tryz.results82)
theorem p90 (e : Ev) (ha : ALen (eA e)) : phi C0 (lim C0) 90 [.ag [(iv e.kind), .dv none ((nums .u8 e.addr)), (iv e.act), (iv e.val.kind), (iv e.val.n), .dv none ((nums .u8 e.val.s)), .dv none ((rws byP e.val.k)), .dv none ((rws vP e.val.l)), .dv none ((rws byP e.deps))]] [] = some (.ag [(iv e.kind), .pv false (.sl (nums .u8 e.addr)), (iv e.act), (iv e.val.kind), (iv e.val.n), .pv false (.sl (nums .u8 e.val.s)), .pv false (.sl (rws byP e.val.k)), .pv false (.sl (rws vP e.val.l)), .pv false (.sl (rws byP e.deps))], []) := call0 Tryz.func90 (by kernel_rfl) ((show ∀ fn : Func, fn.results = #[.cell 2 126] → lim C0 90 fn [.c (code Tryz.f90)] ⟨_, _⟩ = _ from fun fn hr => by
 have p1 := p8 e.addr ha.addr
 have p2 := toV e.val ha.vl
 have p3 := p105 e.deps ha.dl
 simp [code, Tryz.f90, hr, p1, p2, p3]
 ) Tryz.f90 Tryz.results90)
theorem p96 (e : Ev) (ha : ALen (eA e)) (b1 b2 b3 b4 b5 c1 c2 c3 c4 c5 : Bool) : phi C0 (lim C0) 96 [.ag [(iv e.kind), .pv b1 (.sl (nums .u8 e.addr)), (iv e.act), (iv e.val.kind), (iv e.val.n), .pv b2 (.sl (nums .u8 e.val.s)), .pv b3 (.sl (rws byP e.val.k)), .pv b4 (.sl (rws vP e.val.l)), .pv b5 (.sl (rws byP e.deps))], .ag [(iv e.kind), .pv c1 (.sl (nums .u8 e.addr)), (iv e.act), (iv e.val.kind), (iv e.val.n), .pv c2 (.sl (nums .u8 e.val.s)), .pv c3 (.sl (rws byP e.val.k)), .pv c4 (.sl (rws vP e.val.l)), .pv c5 (.sl (rws byP e.deps))]] [] = some ((bv true), []) := call0 Tryz.func96 (by kernel_rfl) ((show ∀ fn : Func, fn.results = #[.tmp 4] → lim C0 96 fn [.c (code Tryz.f96)] ⟨_, _⟩ = _ from fun fn hr => by
 have p1 := fun b b' => p11 b b' e.addr e.addr (by have : e.addr.length ≤ 1048576 := ha.addr; omega)
 have p2 := fun b1 b2 b3 c1 c2 c3 => eqVal e.val ha.vl b1 b2 b3 c1 c2 c3
 have p3 := fun b b' => p116 b b' e.deps ha.dl
 simp only [eq_self, decide_true] at p1
 simp [code, Tryz.f96, hr, p1, p2, p3]
 ) Tryz.f96 Tryz.results96)
end Go.Proofs.YtgbfmdihmnpcdaaGreatDoor
