/- What is held of marks. -/
import Derived.Test.YtgbfmdihmnpcdaaGreatDoorO2
namespace Go.Proofs.YtgbfmdihmnpcdaaGreatDoor
open Go Go.Pm Go.Proofs
set_option linter.unusedVariables false
set_option linter.unusedSimpArgs false
set_option maxRecDepth 100000
set_option maxHeartbeats 4000000
@[simp] theorem mV_kind (v : Val) (k : Int) : (mV v k).kind = k := by rw [mV_eq]; rfl
@[simp] theorem mV_n (v : Val) (k : Int) : (mV v k).n = k + 1 := by rw [mV_eq]; rfl
@[simp] theorem mV_s (v : Val) (k : Int) : (mV v k).s = mkL v.s.length (k + 1 + 1) := by rw [mV_eq]; rfl
@[simp] theorem mV_k (v : Val) (k : Int) : (mV v k).k = mBB v.k (k + 1 + 1 + v.s.length) := by rw [mV_eq]; rfl
@[simp] theorem mV_l (v : Val) (k : Int) : (mV v k).l = mVs v.l (k + 1 + 1 + v.s.length + mkBs v.k) := by rw [mV_eq]; rfl
theorem p79 (b : Bool) (l : List Val) (k : Int) (h0 : 0 ≤ k) (h1 : k + mkVs l ≤ 4611686018427387904) (h2 : ∀ u ∈ l, u.k.length ≤ 4611686018427387904) (ih0 : ∀ u ∈ l, ∀ (b : Bool) (k : Int), 0 ≤ k → k + mkVs u.l ≤ 4611686018427387904 → phi C0 (lim C0) 79 [.pv b (.sl (rws vP (mVs u.l k))), (.pv false (.sc (.int .i64 k)))] [] = some ((.pv false (.sc (.int .i64 (k + mkVs u.l)))), [])) : phi C0 (lim C0) 79 [.pv b (.sl (rws vP (mVs l k))), (.pv false (.sc (.int .i64 k)))] [] = some ((.pv false (.sc (.int .i64 (k + mkVs l)))), []) := call0 Tryz.func79 (by kernel_rfl) ((show ∀ fn : Func, fn.results = #[.tmp 4] → globs fn = [0, 5, 9, 1, 18, 27, 38, 47, 56, 4] → lim C0 79 fn [.c (code Tryz.f79)] ⟨_, _⟩ = _ from fun fn hr hg => by
  have hl := mkVs_len l
  simp [code, Tryz.f79, hr, hg]
  refine (loop_to (s0 := ?s1) (fun i => l.length - i) (fun i => [(5, (.pv false (.sc (.int .i64 ((i : Nat)))))), (1, (.pv false (.sc (.int .i64 (k + (mkVs (l.take i) : Nat))))))]) (fun i => []) (fun i K => K [(5, (.pv false (.sc (.int .i64 l.length)))), (1, (.pv false (.sc (.int .i64 (k + mkVs l)))))] []) (fun i => i ≤ l.length) 0 ?hc1 ?h01 ?hs1 ?step1).trans ?r1
  case hc1 => simp; rfl
  case h01 => first | (simp; done) | (simp [*]; done) | exact ⟨by simp, ⟨rfl⟩⟩ | grind | (simp; omega)
  case hs1 => first | (simp; done) | (simp [*]; done)
  case r1 => simp [hg, hr]
  intro n i hi ih
  simp [hg]
  (first | refine ifL_cases (fun h => ?_) (fun h => ?_) | refine gI_cases' (fun h => ?_) (fun h => ?_) | refine gI_cases (fun h => ?_) (fun h => ?_) | refine dI_cases' (fun h => ?_) (fun h => ?_) | refine dI_cases (fun h => ?_) (fun h => ?_)) <;> first | replace h := of_decide_eq_true h | replace h := of_decide_eq_false h | skip
  · have hlt := h
    have e1 := mkVs_at hlt
    have e2 := mkVs_le l (i + 1)
    have e3 := mkV_eq l[i]
    obtain ⟨K, hK⟩ : ∃ K : Int, K = k + (mkVs (l.take i) : Nat) := ⟨_, rfl⟩
    have q1 := fun b => p77 b l[i].s.length (K + 1 + 1) (by omega) (by omega)
    have q2 := fun b => p78 b l[i].k (K + 1 + 1 + l[i].s.length) (by omega) (by omega) (h2 _ (List.getElem_mem hlt))
    have q3 := fun b => ih0 l[i] (List.getElem_mem hlt) b (K + 1 + 1 + l[i].s.length + mkBs l[i].k) (by omega) (by omega)
    have u1 : ¬ (K + 1 + 1 + l[i].s.length < 0) := by omega
    have u2 : ¬ (K + 1 + 1 + l[i].s.length + mkBs l[i].k < 0) := by omega
    have u3 : ¬ (K + 1 + 1 + l[i].s.length + mkBs l[i].k + mkVs l[i].l < 0) := by omega
    simp [hg, hlt, ← hK, hr, hg]
    try simp (disch := omega) only [wrap_id']
    repeat (simp [hg, hlt, ← hK, q1, u1, q2, u2, q3, u3]; try simp (disch := omega) only [wrap_id'])
    refine (ih.out (i + 1) _ ?_ ?_ ?_).trans ?_
    · omega
    · omega
    · simp [hg, e1, e3]; omega
    · rfl
  · have e : i = l.length := by omega
    subst e
    simp [hg]
  ) Tryz.f79 Tryz.results79 gl79)
theorem pHeldV (v : Val) (hv : VLen v) : ∀ (b : Bool) (k : Int), 0 ≤ k → k + mkVs v.l ≤ 4611686018427387904 → phi C0 (lim C0) 79 [.pv b (.sl (rws vP (mVs v.l k))), (.pv false (.sc (.int .i64 k)))] [] = some ((.pv false (.sc (.int .i64 (k + mkVs v.l)))), []) := by
  revert hv
  refine Val.ind1 (P := fun v => VLen v → ∀ (b : Bool) (k : Int), 0 ≤ k → k + mkVs v.l ≤ 4611686018427387904 → phi C0 (lim C0) 79 [.pv b (.sl (rws vP (mVs v.l k))), (.pv false (.sc (.int .i64 k)))] [] = some ((.pv false (.sc (.int .i64 (k + mkVs v.l)))), [])) (fun v ih hv b k h0 h1 => ?_) v
  exact p79 b v.l k h0 h1 (fun u hu => by have := (hv.sub u hu).here.2.1.1; omega) fun u hu => ih u hu (hv.sub u hu)
section
variable (a : Act) (K : Int)
@[simp] theorem mA_act : (mA a K).act = K := rfl
@[simp] theorem mA_addr : (mA a K).addr = mkL a.addr.length (K + 1) := rfl
@[simp] theorem mA_item : (mA a K).item = K + 1 + a.addr.length := rfl
@[simp] theorem mA_kind : (mA a K).val.kind = K + 1 + a.addr.length + 1 := rfl
@[simp] theorem mA_n : (mA a K).val.n = K + 1 + a.addr.length + 1 + 1 := rfl
@[simp] theorem mA_s : (mA a K).val.s = mkL a.val.s.length (K + 1 + a.addr.length + 1 + 1 + 1) := rfl
@[simp] theorem mA_k : (mA a K).val.k = mBB a.val.k (K + 1 + a.addr.length + 1 + 1 + 1 + a.val.s.length) := rfl
@[simp] theorem mA_l : (mA a K).val.l = mVs a.val.l (K + 1 + a.addr.length + 1 + 1 + 1 + a.val.s.length + mkBs a.val.k) := rfl
@[simp] theorem mA_deps : (mA a K).deps = mBB a.deps (K + 1 + a.addr.length + 1 + 1 + 1 + a.val.s.length + mkBs a.val.k + mkVs a.val.l) := rfl
end
theorem p39 (b : Bool) (l : List Act) (k : Int) (h0 : 0 ≤ k) (h1 : k + mkAs l ≤ 4611686018427387904) (h2 : ∀ a ∈ l, ALen a) (hl : l.length ≤ 1048576) : phi C0 (lim C0) 39 [.pv b (.sl (rws aP (mAs l k))), (.pv false (.sc (.int .i64 k)))] [] = some ((.pv false (.sc (.int .i64 (k + mkAs l)))), []) := call0 Tryz.func39 (by kernel_rfl) ((show ∀ fn : Func, fn.results = #[.tmp 4] → globs fn = [0, 5, 9, 1, 18, 29, 36, 46, 56, 68, 78, 88, 97, 4] → lim C0 39 fn [.c (code Tryz.f39)] ⟨_, _⟩ = _ from fun fn hr hg => by
  simp [code, Tryz.f39, hr, hg]
  refine (loop_to (s0 := ?s2) (fun i => l.length - i) (fun i => [(5, (.pv false (.sc (.int .i64 ((i : Nat)))))), (1, (.pv false (.sc (.int .i64 (k + (mkAs (l.take i) : Nat))))))]) (fun i => []) (fun i K => K [(5, (.pv false (.sc (.int .i64 l.length)))), (1, (.pv false (.sc (.int .i64 (k + mkAs l)))))] []) (fun i => i ≤ l.length) 0 ?hc2 ?h02 ?hs2 ?step2).trans ?r2
  case hc2 => simp; rfl
  case h02 => first | (simp; done) | (simp [*]; done) | exact ⟨by simp, ⟨rfl⟩⟩ | grind | (simp; omega)
  case hs2 => first | (simp; done) | (simp [*]; done)
  case r2 => simp [hg, hr]
  intro n i hi ih
  simp [hg]
  (first | refine ifL_cases (fun h => ?_) (fun h => ?_) | refine gI_cases' (fun h => ?_) (fun h => ?_) | refine gI_cases (fun h => ?_) (fun h => ?_) | refine dI_cases' (fun h => ?_) (fun h => ?_) | refine dI_cases (fun h => ?_) (fun h => ?_)) <;> first | replace h := of_decide_eq_true h | replace h := of_decide_eq_false h | skip
  · have hlt := h
    have e1 := mkAs_at hlt
    have e2 := mkAs_le l (i + 1)
    have e3 : mkA l[i] = 4 + l[i].addr.length + l[i].val.s.length + mkBs l[i].val.k + mkVs l[i].val.l + mkBs l[i].deps := rfl
    have ha := h2 _ (List.getElem_mem hlt)
    obtain ⟨K, hK⟩ : ∃ K : Int, K = k + (mkAs (l.take i) : Nat) := ⟨_, rfl⟩
    have q1 := fun b => p77 b l[i].addr.length (K + 1) (by omega) (by omega)
    have q2 := fun b => p77 b l[i].val.s.length (K + 1 + l[i].addr.length + 1 + 1 + 1) (by omega) (by omega)
    have q3 := fun b => p78 b l[i].val.k (K + 1 + l[i].addr.length + 1 + 1 + 1 + l[i].val.s.length) (by omega) (by omega) (by have := ha.vl.here.2.1.1; omega)
    have q4 := fun b => pHeldV l[i].val ha.vl b (K + 1 + l[i].addr.length + 1 + 1 + 1 + l[i].val.s.length + mkBs l[i].val.k) (by omega) (by omega)
    have q5 := fun b => p78 b l[i].deps (K + 1 + l[i].addr.length + 1 + 1 + 1 + l[i].val.s.length + mkBs l[i].val.k + mkVs l[i].val.l) (by omega) (by omega) (by have := ha.dl.1; omega)
    have u1 : ¬ (K + 1 + l[i].addr.length < 0) := by omega
    have u2 : ¬ (K + 1 + l[i].addr.length + 1 + 1 + 1 + l[i].val.s.length < 0) := by omega
    have u3 : ¬ (K + 1 + l[i].addr.length + 1 + 1 + 1 + l[i].val.s.length + mkBs l[i].val.k < 0) := by omega
    have u4 : ¬ (K + 1 + l[i].addr.length + 1 + 1 + 1 + l[i].val.s.length + mkBs l[i].val.k + mkVs l[i].val.l < 0) := by omega
    have u5 : ¬ (K + 1 + l[i].addr.length + 1 + 1 + 1 + l[i].val.s.length + mkBs l[i].val.k + mkVs l[i].val.l + mkBs l[i].deps < 0) := by omega
    simp [hg, hlt, ← hK, hr, hg]
    try simp (disch := omega) only [wrap_id']
    repeat (simp [hg, hlt, ← hK, q1, u1, q2, u2, q3, u3, q4, u4, q5, u5]; try simp (disch := omega) only [wrap_id'])
    refine (ih.out (i + 1) _ ?_ ?_ ?_).trans ?_
    · omega
    · omega
    · simp [hg, e1, e3]; omega
    · rfl
  · have e : i = l.length := by omega
    subst e
    simp [hg]
  ) Tryz.f39 Tryz.results39 gl39)
theorem p14 (b : Bool) (l : List Act) (same k : Int) (h0 : 0 ≤ k) (h1 : k + mkAs l ≤ 4611686018427387904) (h2 : ∀ a ∈ l, ALen a) (hl : l.length ≤ 1048576) : phi C0 (lim C0) 14 [.ag [.pv b (.sl (rws aP (mAs l k))), (.pv false (.sc (.int .i64 same)))], (.pv false (.sc (.int .i64 k)))] [] = some ((.pv false (.sc (.int .i64 (k + mkAs l)))), []) := call0 Tryz.func14 (by kernel_rfl) ((show ∀ fn : Func, fn.results = #[.tmp 4] → lim C0 14 fn [.c (code Tryz.f14)] ⟨_, _⟩ = _ from fun fn hr => by
  have q := fun b => p39 b l k h0 h1 h2 hl
  have u1 : ¬ (k + mkAs l < 0) := by omega
  simp [code, Tryz.f14, hr, q, u1]
  ) Tryz.f14 Tryz.results14)
end Go.Proofs.YtgbfmdihmnpcdaaGreatDoor
