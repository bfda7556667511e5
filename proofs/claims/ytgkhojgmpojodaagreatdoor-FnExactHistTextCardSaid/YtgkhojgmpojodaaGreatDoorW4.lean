/- Events: what the laws measure, copy, compare and write over. -/
import Derived.Test.YtgkhojgmpojodaaGreatDoorW3
import Derived.Test.YtgkhojgmpojodaaGreatDoorU2
namespace Go.Proofs.YtgkhojgmpojodaaGreatDoor
open Go Go.Pm Go.Proofs
set_option linter.unusedVariables false
set_option linter.unusedSimpArgs false
set_option maxRecDepth 100000
set_option maxHeartbeats 4000000
/-- An event's lists, as an act's. -/
def eA (e : Ev) : Act := ⟨0, e.addr, 0, e.val, e.deps⟩
theorem p20 (e : Ev) (left : Int) (h0 : 0 ≤ left) (h1 : left ≤ 1048576) (ha : ABig (eA e)) : phi C0 (lim C0) 20 [.ag [(.pv false (.sc (.int .i64 e.kind))), .pv false (.sl (nums .u8 e.addr)), (.pv false (.sc (.int .i64 e.act))), (.pv false (.sc (.int .i64 e.val.kind))), (.pv false (.sc (.int .i64 e.val.n))), .pv false (.sl (nums .u8 e.val.s)), .pv false (.sl (rws byP e.val.k)), .pv false (.sl (rws vP e.val.l)), .pv false (.sl (rws byP e.deps))], (.pv false (.sc (.int .i64 left)))] [] = some ((.pv false (.sc (.int .i64 (szA (eA e) left)))), []) := call0 Tryz.func20 (by kernel_rfl) ((show ∀ fn : Func, fn.results = #[.tmp 4] → lim C0 20 fn [.c (code Tryz.f20)] ⟨_, _⟩ = _ from fun fn hr => by
  have p1 := fun b => p68 b (nums .u8 e.addr) left h0 h1 (by have : e.addr.length ≤ 9223372036854775807 := ha.addr; simpa using this)
  have hz := szL_le e.addr.length left h0
  simp only [rws_len] at p1
  have e0 : szA (eA e) left = if szL e.addr.length left < 0 then -1 else if szV e.val (szL e.addr.length left) < 0 then -1 else szBB e.deps (szV e.val (szL e.addr.length left)) := rfl
  rw [e0]
  simp [code, Tryz.f20, hr, p1]
  (first | refine ifL_cases (fun h => ?_) (fun h => ?_) | refine gI_cases' (fun h => ?_) (fun h => ?_) | refine gI_cases (fun h => ?_) (fun h => ?_) | refine dI_cases' (fun h => ?_) (fun h => ?_) | refine dI_cases (fun h => ?_) (fun h => ?_)) <;> first | replace h := of_decide_eq_true h | replace h := of_decide_eq_false h | skip
  · simp [hr, h]
  rw [if_neg h]
  have p2 := fun b1 b2 b3 => szVal e.val ha.val b1 b2 b3 (szL e.addr.length left) (by omega) (by omega)
  have hz2 := szV_le e.val (szL e.addr.length left) (by omega)
  simp [p2]
  (first | refine ifL_cases (fun h => ?_) (fun h => ?_) | refine gI_cases' (fun h => ?_) (fun h => ?_) | refine gI_cases (fun h => ?_) (fun h => ?_) | refine dI_cases' (fun h => ?_) (fun h => ?_) | refine dI_cases (fun h => ?_) (fun h => ?_)) <;> first | replace h := of_decide_eq_true h | replace h := of_decide_eq_false h | skip
  · simp [hr, h]
  rw [if_neg h]
  have p3 := fun b => p70 b e.deps (szV e.val (szL e.addr.length left)) (by omega) (by omega) ha.deps ha.depsB
  have hz3 := szBB_le e.deps (szV e.val (szL e.addr.length left)) (by omega)
  simp [p3]
  (first | refine ifL_cases (fun h => ?_) (fun h => ?_) | refine gI_cases' (fun h => ?_) (fun h => ?_) | refine gI_cases (fun h => ?_) (fun h => ?_) | refine dI_cases' (fun h => ?_) (fun h => ?_) | refine dI_cases (fun h => ?_) (fun h => ?_)) <;> first | replace h := of_decide_eq_true h | replace h := of_decide_eq_false h | skip
  · simp [hr]; omega
  · simp [hr]
  ) Tryz.f20 Tryz.results20)
theorem p22 (e : Ev) (ha : ALen (eA e)) : phi C0 (lim C0) 22 [.ag [(.pv false (.sc (.int .i64 e.kind))), .dv none ((nums .u8 e.addr)), (.pv false (.sc (.int .i64 e.act))), (.pv false (.sc (.int .i64 e.val.kind))), (.pv false (.sc (.int .i64 e.val.n))), .dv none ((nums .u8 e.val.s)), .dv none ((rws byP e.val.k)), .dv none ((rws vP e.val.l)), .dv none ((rws byP e.deps))]] [] = some (.ag [(.pv false (.sc (.int .i64 e.kind))), .pv false (.sl (nums .u8 e.addr)), (.pv false (.sc (.int .i64 e.act))), (.pv false (.sc (.int .i64 e.val.kind))), (.pv false (.sc (.int .i64 e.val.n))), .pv false (.sl (nums .u8 e.val.s)), .pv false (.sl (rws byP e.val.k)), .pv false (.sl (rws vP e.val.l)), .pv false (.sl (rws byP e.deps))], []) := call0 Tryz.func22 (by kernel_rfl) ((show ∀ fn : Func, fn.results = #[.cell 2 49] → lim C0 22 fn [.c (code Tryz.f22)] ⟨_, _⟩ = _ from fun fn hr => by
  have p1 := p36 e.addr ha.addr
  have p2 := toV e.val ha.vl
  have p3 := p72 e.deps ha.dl
  simp [code, Tryz.f22, hr, p1, p2, p3]
  ) Tryz.f22 Tryz.results22)
theorem p24 (e : Ev) (ha : ALen (eA e)) (b1 b2 b3 b4 b5 c1 c2 c3 c4 c5 : Bool) : phi C0 (lim C0) 24 [.ag [(.pv false (.sc (.int .i64 e.kind))), .pv b1 (.sl (nums .u8 e.addr)), (.pv false (.sc (.int .i64 e.act))), (.pv false (.sc (.int .i64 e.val.kind))), (.pv false (.sc (.int .i64 e.val.n))), .pv b2 (.sl (nums .u8 e.val.s)), .pv b3 (.sl (rws byP e.val.k)), .pv b4 (.sl (rws vP e.val.l)), .pv b5 (.sl (rws byP e.deps))], .ag [(.pv false (.sc (.int .i64 e.kind))), .pv c1 (.sl (nums .u8 e.addr)), (.pv false (.sc (.int .i64 e.act))), (.pv false (.sc (.int .i64 e.val.kind))), (.pv false (.sc (.int .i64 e.val.n))), .pv c2 (.sl (nums .u8 e.val.s)), .pv c3 (.sl (rws byP e.val.k)), .pv c4 (.sl (rws vP e.val.l)), .pv c5 (.sl (rws byP e.deps))]] [] = some ((.pv false (.sc (.bool true))), []) := call0 Tryz.func24 (by kernel_rfl) ((show ∀ fn : Func, fn.results = #[.tmp 4] → lim C0 24 fn [.c (code Tryz.f24)] ⟨_, _⟩ = _ from fun fn hr => by
  have p1 := fun b b' => p15 b b' e.addr e.addr (by have : e.addr.length ≤ 1048576 := ha.addr; omega)
  have p2 := fun b1 b2 b3 c1 c2 c3 => eqVal e.val ha.vl b1 b2 b3 c1 c2 c3
  have p3 := fun b b' => p76 b b' e.deps ha.dl
  simp only [eq_self, decide_true] at p1
  simp [code, Tryz.f24, hr, p1, p2, p3]
  ) Tryz.f24 Tryz.results24)
theorem p77 (v : Val) (k : Int) (hv : VLen v) (h0 : 0 ≤ k) (h1 : k + mkV v ≤ 4611686018427387904) : phi C0 (lim C0) 77 [.ag [(.pv false (.sc (.int .i64 v.kind))), (.pv false (.sc (.int .i64 v.n))), .dv (some 0) ((nums .u8 v.s)), .dv (some 0) ((rws byP v.k)), .dv (some 0) ((rws vP v.l))], (.pv false (.sc (.int .i64 k)))] [(0, .dat false)] = some ((.pv false (.sc (.int .i64 (k + (v.s.length + mkBs v.k + mkVs v.l : Nat))))), [(0, .dat false)]) := call0 Tryz.func77 (by kernel_rfl) ((show ∀ fn : Func, fn.results = #[.tmp 4] → lim C0 77 fn [.c (code Tryz.f77)] ⟨_, _⟩ = _ from fun fn hr => by
  have e3 := mkV_eq v
  have q1 := p18 v.s k (by omega) (by omega)
  have q2 := p78 v.k (k + v.s.length) (by omega) (by omega) (by have := hv.here.2.1.1; omega)
  have q3 := pMarkV v hv (k + v.s.length + mkBs v.k) (by omega) (by omega)
  simp [code, Tryz.f77, hr, q1, q2, q3]
  try omega
  ) Tryz.f77 Tryz.results77)
theorem p25 (e : Ev) (k : Int) (ha : ALen (eA e)) (h0 : 0 ≤ k) (h1 : k + mkA (eA e) ≤ 4611686018427387904) : phi C0 (lim C0) 25 [.ag [(.pv false (.sc (.int .i64 e.kind))), .dv (some 0) ((nums .u8 e.addr)), (.pv false (.sc (.int .i64 e.act))), (.pv false (.sc (.int .i64 e.val.kind))), (.pv false (.sc (.int .i64 e.val.n))), .dv (some 0) ((nums .u8 e.val.s)), .dv (some 0) ((rws byP e.val.k)), .dv (some 0) ((rws vP e.val.l)), .dv (some 0) ((rws byP e.deps))], (.pv false (.sc (.int .i64 k)))] [(0, .dat false)] = some ((.pv false (.sc (.int .i64 (k + (e.addr.length + (e.val.s.length + mkBs e.val.k + mkVs e.val.l) + mkBs e.deps : Nat))))), [(0, .dat false)]) := call0 Tryz.func25 (by kernel_rfl) ((show ∀ fn : Func, fn.results = #[.tmp 4] → lim C0 25 fn [.c (code Tryz.f25)] ⟨_, _⟩ = _ from fun fn hr => by
  have e0 : mkA (eA e) = 4 + e.addr.length + e.val.s.length + mkBs e.val.k + mkVs e.val.l + mkBs e.deps := rfl
  have e3 := mkV_eq e.val
  have q1 := p18 e.addr k (by omega) (by omega)
  have q2 := p77 e.val (k + e.addr.length) ha.vl (by omega) (by omega)
  have q3 := p78 e.deps (k + e.addr.length + (e.val.s.length + mkBs e.val.k + mkVs e.val.l : Nat)) (by omega) (by omega) (by have := ha.dl.1; have : e.deps.length ≤ 1048576 := this; omega)
  simp only [Int.natCast_add] at q2 q3
  simp [code, Tryz.f25, hr, q1, q2, q3]
  try omega
  ) Tryz.f25 Tryz.results25)
end Go.Proofs.YtgkhojgmpojodaaGreatDoor
