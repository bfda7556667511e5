/- FnExactEventText, walked. -/
import Derived.Test.YtgkhojgmpojodaaGreatDoorW4
namespace Go.Proofs.YtgkhojgmpojodaaGreatDoor
open Go Go.Pm Go.Proofs
set_option linter.unusedVariables false
set_option linter.unusedSimpArgs false
theorem evT_len {e : Ev} (h : evB e = true) (he : EOk e) : (evT e).length ≤ 1099511627776 := by
  obtain ⟨hk, ha, h1, h2⟩ := evB_kind h
  have hd := he.addr
  have a1 : (knT e.kind).length ≤ 6 := by
    unfold knT
    repeat' split
    all_goals decide
  have a2 : (if e.addr = [] then [] else 32 :: e.addr).length ≤ 1048577 := by
    split
    · simp
    · simp; omega
  have a3 : (if e.kind = 1 then 32 :: actT e.act else if e.kind = 2 then 32 :: sayV e.val else []).length ≤ 10000 := by
    split
    · have := (actT_ok e.act).2.1
      simp; omega
    split
    · rename_i k
      have hv5 : shV e.val 5 = true ∧ ptV e.val ≤ 40 := by simpa [valB] using h2 k
      have := say_len e.val 5 hv5.1
      simp; omega
    · simp
  unfold evT
  simp only [List.length_append]
  omega
theorem flat_nums' (l : List Int) : (nums .u8 l).all (fun r => r.all PV.isSc) = true := by
  rw [List.all_eq_true]
  intro r hr
  obtain ⟨x, _, rfl⟩ := List.mem_map.1 hr
  rfl
set_option maxHeartbeats 8000000
set_option maxRecDepth 100000 in
set_option maxHeartbeats 4000000 in
theorem e4 (fn : Func) (hr : fn.results = #[.tmp 2]) (e : Ev) (hb : ABig (eA e)) (ha : byteOk e.addr = true ∧ VBy e.val ∧ ∀ x ∈ e.deps, byteOk x = true) : lim C0 4 fn [.c (code Tryz.f4)] ⟨number [.ag [(.pv false (.sc (.int .i64 e.kind))), .pv false (.sl (nums .u8 e.addr)), (.pv false (.sc (.int .i64 e.act))), (.pv false (.sc (.int .i64 e.val.kind))), (.pv false (.sc (.int .i64 e.val.n))), .pv false (.sl (nums .u8 e.val.s)), .pv false (.sl (rws byP e.val.k)), .pv false (.sl (rws vP e.val.l)), .pv false (.sl (rws byP e.deps))]] 0, []⟩ = some (tf true, []) := by
  have hp10 := plan4_10
  simp [opsOf, code, Tryz.f4] at hp10
  have h14 := p20 e 1048576 (by omega) (by omega) hb
  simp [code, Tryz.f4, hr, hp10, h14]
  (first | refine ifL_cases (fun h => ?_) (fun h => ?_) | refine gI_cases' (fun h => ?_) (fun h => ?_) | refine gI_cases (fun h => ?_) (fun h => ?_) | refine dI_cases' (fun h => ?_) (fun h => ?_) | refine dI_cases (fun h => ?_) (fun h => ?_)) <;> first | replace h := of_decide_eq_true h | replace h := of_decide_eq_false h | skip
  · simp [hr]
  have t2 := szA_ok (a := eA e) (left := 1048576) (by omega) (by omega) (by omega)
  have t3 : EOk e := ⟨t2.addr, ha.1, t2.vl, ha.2.1, t2.vp, t2.dl, ha.2.2⟩
  have tm := szA_mk (a := eA e) (left := 1048576) (by omega) (by omega)
  have q1 := p22 e t2
  have q2 := p21 e t3
  have q3 := p23 e t3
  have q4 := fun b1 b2 b3 b4 b5 c1 c2 c3 c4 c5 => p24 e t2 b1 b2 b3 b4 b5 c1 c2 c3 c4 c5
  have q5 := p25 e 1 t2 (by omega) (by omega)
  have hT : (if evB e = true then evT e else []).length ≤ 1099511627776 := by
    split
    · exact evT_len (by assumption) t3
    · simp
  generalize (if evB e = true then evT e else []) = T at *
  have q6 := fun b b' => p15 b b' T T (by omega)
  have q7 := p18_own T 1 (by omega) (by omega)
  have q8 := fun b => p19 b T.length 1 (by omega) (by omega)
  have f1 := flat_nums' T
  have c1 : ¬ (1 : Int) + (e.addr.length + (e.val.s.length + mkBs e.val.k + mkVs e.val.l) + mkBs e.deps : Nat) < 0 := by omega
  have c2 : ¬ (1 : Int) + T.length < 0 := by omega
  simp only [decide_true, eq_self] at q6
  have k1 : List.take T.length (mkL T.length 1) = mkL T.length 1 := List.take_of_length_le (by simp)
  generalize (e.addr.length + (e.val.s.length + mkBs e.val.k + mkVs e.val.l) + mkBs e.deps : Nat) = N at *
  simp [q1, q2, q3, q4, q5, q6, q7, q8, f1, c1, c2, k1, hr, hp10]
theorem p4 (e : Ev) (hb : ABig (eA e)) (ha : byteOk e.addr = true ∧ VBy e.val ∧ ∀ x ∈ e.deps, byteOk x = true) : phi C0 (lim C0) 4 [.ag [(.pv false (.sc (.int .i64 e.kind))), .pv false (.sl (nums .u8 e.addr)), (.pv false (.sc (.int .i64 e.act))), (.pv false (.sc (.int .i64 e.val.kind))), (.pv false (.sc (.int .i64 e.val.n))), .pv false (.sl (nums .u8 e.val.s)), .pv false (.sl (rws byP e.val.k)), .pv false (.sl (rws vP e.val.l)), .pv false (.sl (rws byP e.deps))]] [] = some (tf true, []) := call0 Tryz.func4 (by kernel_rfl) (e4 Tryz.f4 Tryz.results4 e hb ha)
end Go.Proofs.YtgkhojgmpojodaaGreatDoor
