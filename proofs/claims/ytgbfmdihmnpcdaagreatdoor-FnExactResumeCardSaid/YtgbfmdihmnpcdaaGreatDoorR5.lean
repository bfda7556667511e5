/- What is held of marks: entries, events, histories. -/
import Derived.Test.YtgbfmdihmnpcdaaGreatDoorR4
namespace Go.Proofs.YtgbfmdihmnpcdaaGreatDoor
open Go Go.Pm Go.Proofs
set_option linter.unusedVariables false
set_option linter.unusedSimpArgs false
set_option maxRecDepth 100000
set_option maxHeartbeats 4000000
@[simp] theorem mBB_at (l : List (List Int)) (k : Int) (i : Nat) (h : i < (mBB l k).length) : (mBB l k)[i] = mkL (l[i]'(by simpa using h)).length (k + mkBs (l.take i)) := by
 have hl : i < l.length := by simpa using h
 have e := mBB_app (l.take i) (l.drop i) k
 rw [List.take_append_drop] at e
 have e0 : (mBB (l.take i) k).length = i := by simp; omega
 have : (mBB l k)[i]? = some (mkL l[i].length (k + mkBs (l.take i))) := by
  rw [e, List.getElem?_append_right (by omega), e0, Nat.sub_self, drop_at hl]; rfl
 exact (List.getElem?_eq_some_iff.1 this).2
@[simp] theorem mVs_at (l : List Val) (k : Int) (i : Nat) (h : i < (mVs l k).length) : (mVs l k)[i] = mV (l[i]'(by simpa using h)) (k + mkVs (l.take i)) := by
 have hl : i < l.length := by simpa using h
 have e := mVs_app (l.take i) (l.drop i) k
 rw [List.take_append_drop] at e
 have e0 : (mVs (l.take i) k).length = i := by simp; omega
 have : (mVs l k)[i]? = some (mV l[i] (k + mkVs (l.take i))) := by
  rw [e, List.getElem?_append_right (by omega), e0, Nat.sub_self, drop_at hl, mVs]; rfl
 exact (List.getElem?_eq_some_iff.1 this).2
theorem p78 (b : Bool) (l : List (List Int)) (k : Int) (h0 : 0 ≤ k) (h1 : k + mkBs l ≤ 4611686018427387904) (h2 : l.length ≤ 4611686018427387904) : phi C0 (lim C0) 78 [.pv b (.sl (rws byP (mBB l k))), (iv k)] [] = some ((iv (k + mkBs l)), []) := call0 Tryz.func78 (by kernel_rfl) ((show ∀ fn : Func, fn.results = #[.tmp 4] → globs fn = [0, 5, 9, 1, 19, 4] → lim C0 78 fn [.c (code Tryz.f78)] ⟨_, _⟩ = _ from fun fn hr hg => by
 simp [code, Tryz.f78, hr, hg]
 refine (loop_to (s0 := ?s1) (fun i => l.length - i) (fun i => [(5, (iv ((i : Nat)))), (1, (iv (k + (mkBs (l.take i) : Nat))))]) (fun i => []) (fun i K => K [(5, (iv l.length)), (1, (iv (k + mkBs l)))] []) (fun i => i ≤ l.length) 0 ?hc1 ?h01 ?hs1 ?step1).trans ?r1
 case hc1 => simp; rfl
 case h01 => first | (simp; done) | (simp [*]; done) | exact ⟨by simp, ⟨rfl⟩⟩ | grind | (simp; omega)
 case hs1 => first | (simp; done) | (simp [*]; done)
 case r1 => simp [hg, hr]
 intro n i hi ih
 simp [hg]
 (first | refine ifL_cases (fun h => ?_) (fun h => ?_) | refine gI_cases' (fun h => ?_) (fun h => ?_) | refine gI_cases (fun h => ?_) (fun h => ?_) | refine dI_cases' (fun h => ?_) (fun h => ?_) | refine dI_cases (fun h => ?_) (fun h => ?_)) <;> first | replace h := of_decide_eq_true h | replace h := of_decide_eq_false h | skip
 · have hlt := h
   have e1 := mkBs_at hlt
   have e2 := mkBs_le l (i + 1)
   have q := fun b => p77 b l[i].length (k + (mkBs (l.take i) : Nat)) (by omega) (by omega)
   have u1 : ¬ (k + (mkBs (l.take i) : Nat) + l[i].length < 0) := by omega
   simp [hg, hlt, byP, q, u1, hr, hg]
   try simp (disch := omega) only [wrap_id']
   refine (ih.out (i + 1) _ ?_ ?_ ?_).trans ?_
   · omega
   · omega
   · simp [hg, e1]; omega
   · rfl
 · have e : i = l.length := by omega
   subst e
   simp [hg]
 ) Tryz.f78 Tryz.results78 gl78)
@[simp] theorem mV_kind (v : Val) (k : Int) : (mV v k).kind = k := by rw [mV_eq]; rfl
@[simp] theorem mV_n (v : Val) (k : Int) : (mV v k).n = k + 1 := by rw [mV_eq]; rfl
@[simp] theorem mV_s (v : Val) (k : Int) : (mV v k).s = mkL v.s.length (k + 1 + 1) := by rw [mV_eq]; rfl
@[simp] theorem mV_k (v : Val) (k : Int) : (mV v k).k = mBB v.k (k + 1 + 1 + v.s.length) := by rw [mV_eq]; rfl
@[simp] theorem mV_l (v : Val) (k : Int) : (mV v k).l = mVs v.l (k + 1 + 1 + v.s.length + mkBs v.k) := by rw [mV_eq]; rfl
theorem p79 (b : Bool) (l : List Val) (k : Int) (h0 : 0 ≤ k) (h1 : k + mkVs l ≤ 4611686018427387904) (h2 : ∀ u ∈ l, u.k.length ≤ 4611686018427387904) (ih0 : ∀ u ∈ l, ∀ (b : Bool) (k : Int), 0 ≤ k → k + mkVs u.l ≤ 4611686018427387904 → phi C0 (lim C0) 79 [.pv b (.sl (rws vP (mVs u.l k))), (iv k)] [] = some ((iv (k + mkVs u.l)), [])) : phi C0 (lim C0) 79 [.pv b (.sl (rws vP (mVs l k))), (iv k)] [] = some ((iv (k + mkVs l)), []) := call0 Tryz.func79 (by kernel_rfl) ((show ∀ fn : Func, fn.results = #[.tmp 4] → globs fn = [0, 5, 9, 1, 18, 27, 38, 47, 56, 4] → lim C0 79 fn [.c (code Tryz.f79)] ⟨_, _⟩ = _ from fun fn hr hg => by
 have hl := mkVs_len l
 simp [code, Tryz.f79, hr, hg]
 refine (loop_to (s0 := ?s2) (fun i => l.length - i) (fun i => [(5, (iv ((i : Nat)))), (1, (iv (k + (mkVs (l.take i) : Nat))))]) (fun i => []) (fun i K => K [(5, (iv l.length)), (1, (iv (k + mkVs l)))] []) (fun i => i ≤ l.length) 0 ?hc2 ?h02 ?hs2 ?step2).trans ?r2
 case hc2 => simp; rfl
 case h02 => first | (simp; done) | (simp [*]; done) | exact ⟨by simp, ⟨rfl⟩⟩ | grind | (simp; omega)
 case hs2 => first | (simp; done) | (simp [*]; done)
 case r2 => simp [hg, hr]
 intro n i hi ih
 simp [hg]
 (first | refine ifL_cases (fun h => ?_) (fun h => ?_) | refine gI_cases' (fun h => ?_) (fun h => ?_) | refine gI_cases (fun h => ?_) (fun h => ?_) | refine dI_cases' (fun h => ?_) (fun h => ?_) | refine dI_cases (fun h => ?_) (fun h => ?_)) <;> first | replace h := of_decide_eq_true h | replace h := of_decide_eq_false h | skip
 · have hlt := h
   have e1 := mkVs_at hlt
   have e2 := mkVs_le l (i + 1)
   have e3 := mkV_eq l[i]
   obtain ⟨K, hK⟩ : ∃ K : Int, K = k + (mkVs (l.take i) : Nat) := ⟨_, rfl⟩
   have q1 := fun b => p77 b l[i].s.length (K + 1 + 1) (by omega) (by omega)
   have q2 := fun b => p78 b l[i].k (K + 1 + 1 + l[i].s.length) (by omega) (by omega) (h2 _ (List.getElem_mem hlt))
   have q3 := fun b => ih0 l[i] (List.getElem_mem hlt) b (K + 1 + 1 + l[i].s.length + mkBs l[i].k) (by omega) (by omega)
   have u1 : ¬ (K + 1 + 1 + l[i].s.length < 0) := by omega
   have u2 : ¬ (K + 1 + 1 + l[i].s.length + mkBs l[i].k < 0) := by omega
   have u3 : ¬ (K + 1 + 1 + l[i].s.length + mkBs l[i].k + mkVs l[i].l < 0) := by omega
   simp [hg, hlt, ← hK, hr, hg]
   try simp (disch := omega) only [wrap_id']
   repeat (simp [hg, hlt, ← hK, q1, u1, q2, u2, q3, u3]; try simp (disch := omega) only [wrap_id'])
   refine (ih.out (i + 1) _ ?_ ?_ ?_).trans ?_
   · omega
   · omega
   · simp [hg, e1, e3]; omega
   · rfl
 · have e : i = l.length := by omega
   subst e
   simp [hg]
 ) Tryz.f79 Tryz.results79 gl79)
theorem pHeldV (v : Val) (hv : VLen v) : ∀ (b : Bool) (k : Int), 0 ≤ k → k + mkVs v.l ≤ 4611686018427387904 → phi C0 (lim C0) 79 [.pv b (.sl (rws vP (mVs v.l k))), (iv k)] [] = some ((iv (k + mkVs v.l)), []) := by
 revert hv
 refine Val.ind1 (P := fun v => VLen v → ∀ (b : Bool) (k : Int), 0 ≤ k → k + mkVs v.l ≤ 4611686018427387904 → phi C0 (lim C0) 79 [.pv b (.sl (rws vP (mVs v.l k))), (iv k)] [] = some ((iv (k + mkVs v.l)), [])) (fun v ih hv b k h0 h1 => ?_) v
 exact p79 b v.l k h0 h1 (fun u hu => by have := (hv.sub u hu).here.2.1.1; omega) fun u hu => ih u hu (hv.sub u hu)
@[simp] theorem mNs_at (l : List En) (k : Int) (i : Nat) (h : i < (mNs l k).length) : (mNs l k)[i] = mN (l[i]'(by simpa using h)) (k + mkAs (nAs (l.take i))) := by
 have hl : i < l.length := by simpa using h
 have e := mNs_app (l.take i) (l.drop i) k
 rw [List.take_append_drop] at e
 have e0 : (mNs (l.take i) k).length = i := by simp; omega
 have : (mNs l k)[i]? = some (mN l[i] (k + mkAs (nAs (l.take i)))) := by
  rw [e, List.getElem?_append_right (by omega), e0, Nat.sub_self, drop_at hl]; rfl
 exact (List.getElem?_eq_some_iff.1 this).2
section
variable (a : En) (K : Int)
@[simp] theorem mN_addr : (mN a K).addr = mkL a.addr.length (K) := rfl
@[simp] theorem mN_vkind : (mN a K).val.kind = K + a.addr.length := rfl
@[simp] theorem mN_vn : (mN a K).val.n = K + a.addr.length + 1 := rfl
@[simp] theorem mN_vs : (mN a K).val.s = mkL a.val.s.length (K + a.addr.length + 1 + 1) := rfl
@[simp] theorem mN_vk : (mN a K).val.k = mBB a.val.k (K + a.addr.length + 1 + 1 + a.val.s.length) := rfl
@[simp] theorem mN_vl : (mN a K).val.l = mVs a.val.l (K + a.addr.length + 1 + 1 + a.val.s.length + mkBs a.val.k) := rfl
@[simp] theorem mN_deps : (mN a K).deps = mBB a.deps (K + a.addr.length + 1 + 1 + a.val.s.length + mkBs a.val.k + mkVs a.val.l) := rfl
@[simp] theorem mN_taint : (mN a K).taint = decide ((K + a.addr.length + 1 + 1 + a.val.s.length + mkBs a.val.k + mkVs a.val.l + mkBs a.deps).tmod 3 = 0) := rfl
@[simp] theorem mN_turned : (mN a K).turned = K + a.addr.length + 1 + 1 + a.val.s.length + mkBs a.val.k + mkVs a.val.l + mkBs a.deps + 1 := rfl
end
theorem p98 (b : Bool) (l : List En) (k : Int) (h0 : 0 ≤ k) (h1 : k + mkAs (nAs l) ≤ 4611686018427387904) (h2 : ∀ a ∈ l, ALen (nA a)) (hl : l.length ≤ 1048576) : phi C0 (lim C0) 98 [.pv b (.sl (rws nP (mNs l k))), (iv k)] [] = some ((iv (k + mkAs (nAs l))), []) := call0 Tryz.func98 (by kernel_rfl) ((show ∀ fn : Func, fn.results = #[.tmp 4] → globs fn = [0, 5, 9, 1, 20, 28, 38, 50, 60, 70, 79, 88, 97, 4] → lim C0 98 fn [.c (code Tryz.f98)] ⟨_, _⟩ = _ from fun fn hr hg => by
 simp [code, Tryz.f98, hr, hg]
 refine (loop_to (s0 := ?s3) (fun i => l.length - i) (fun i => [(5, (iv ((i : Nat)))), (1, (iv (k + (mkAs (nAs (l.take i)) : Nat))))]) (fun i => []) (fun i K => K [(5, (iv l.length)), (1, (iv (k + mkAs (nAs l))))] []) (fun i => i ≤ l.length) 0 ?hc3 ?h03 ?hs3 ?step3).trans ?r3
 case hc3 => simp; rfl
 case h03 => first | (simp; done) | (simp [*]; done) | exact ⟨by simp, ⟨rfl⟩⟩ | grind | (simp; omega)
 case hs3 => first | (simp; done) | (simp [*]; done)
 case r3 => simp [hg, hr]
 intro n i hi ih
 simp [hg]
 (first | refine ifL_cases (fun h => ?_) (fun h => ?_) | refine gI_cases' (fun h => ?_) (fun h => ?_) | refine gI_cases (fun h => ?_) (fun h => ?_) | refine dI_cases' (fun h => ?_) (fun h => ?_) | refine dI_cases (fun h => ?_) (fun h => ?_)) <;> first | replace h := of_decide_eq_true h | replace h := of_decide_eq_false h | skip
 · have hlt := h
   have e1 : mkAs (nAs (l.take (i + 1))) = mkAs (nAs (l.take i)) + mkA (nA l[i]) := by
    rw [nAs_take, nAs_take, mkAs_at (by simpa using hlt), nAs_at]
   have e2 : mkAs (nAs (l.take (i + 1))) ≤ mkAs (nAs l) := by rw [nAs_take]; exact mkAs_le _ _
   have e3 : mkA (nA l[i]) = 4 + l[i].addr.length + l[i].val.s.length + mkBs l[i].val.k + mkVs l[i].val.l + mkBs l[i].deps := rfl
   have ha := h2 _ (List.getElem_mem hlt)
   have hv : VLen l[i].val := ha.vl
   have hd : l[i].deps.length ≤ 1048576 := ha.dl.1
   obtain ⟨K, hK⟩ : ∃ K : Int, K = k + (mkAs (nAs (l.take i)) : Nat) := ⟨_, rfl⟩
   have q1 := fun b => p77 b l[i].addr.length (K) (by omega) (by omega)
   have u1 : ¬ (K + l[i].addr.length < 0) := by omega
   have q2 := fun b => p77 b l[i].val.s.length (K + l[i].addr.length + 1 + 1) (by omega) (by omega)
   have u2 : ¬ (K + l[i].addr.length + 1 + 1 + l[i].val.s.length < 0) := by omega
   have q3 := fun b => p78 b l[i].val.k (K + l[i].addr.length + 1 + 1 + l[i].val.s.length) (by omega) (by omega) (by have := hv.here.2.1.1; omega)
   have u3 : ¬ (K + l[i].addr.length + 1 + 1 + l[i].val.s.length + mkBs l[i].val.k < 0) := by omega
   have q4 := fun b => pHeldV l[i].val hv b (K + l[i].addr.length + 1 + 1 + l[i].val.s.length + mkBs l[i].val.k) (by omega) (by omega)
   have u4 : ¬ (K + l[i].addr.length + 1 + 1 + l[i].val.s.length + mkBs l[i].val.k + mkVs l[i].val.l < 0) := by omega
   have q5 := fun b => p78 b l[i].deps (K + l[i].addr.length + 1 + 1 + l[i].val.s.length + mkBs l[i].val.k + mkVs l[i].val.l) (by omega) (by omega) (by omega)
   have u5 : ¬ (K + l[i].addr.length + 1 + 1 + l[i].val.s.length + mkBs l[i].val.k + mkVs l[i].val.l + mkBs l[i].deps < 0) := by omega
   have q9 := bin_rem (.int .i64) .i64 (K + l[i].addr.length + 1 + 1 + l[i].val.s.length + mkBs l[i].val.k + mkVs l[i].val.l + mkBs l[i].deps) 3 (by decide)
   simp [hg, hlt, ← hK, hr, hg]
   try simp (disch := omega) only [wrap_id']
   repeat (simp [hg, hlt, ← hK, q1, u1, q2, u2, q3, u3, q4, u4, q5, u5, q9]; try simp (disch := omega) only [wrap_id'])
   refine (ih.out (i + 1) _ ?_ ?_ ?_).trans ?_
   · omega
   · omega
   · simp [hg, e1, e3]; omega
   · rfl
 · have e : i = l.length := by omega
   subst e
   simp [hg]
 ) Tryz.f98 Tryz.results98 gl98)
@[simp] theorem mEs_at (l : List Ev) (k : Int) (i : Nat) (h : i < (mEs l k).length) : (mEs l k)[i] = mE (l[i]'(by simpa using h)) (k + mkAs (eAs (l.take i))) := by
 have hl : i < l.length := by simpa using h
 have e := mEs_app (l.take i) (l.drop i) k
 rw [List.take_append_drop] at e
 have e0 : (mEs (l.take i) k).length = i := by simp; omega
 have : (mEs l k)[i]? = some (mE l[i] (k + mkAs (eAs (l.take i)))) := by
  rw [e, List.getElem?_append_right (by omega), e0, Nat.sub_self, drop_at hl]; rfl
 exact (List.getElem?_eq_some_iff.1 this).2
section
variable (a : Ev) (K : Int)
@[simp] theorem mE_kind : (mE a K).kind = K := rfl
@[simp] theorem mE_addr : (mE a K).addr = mkL a.addr.length (K + 1) := rfl
@[simp] theorem mE_act : (mE a K).act = K + 1 + a.addr.length := rfl
@[simp] theorem mE_vkind : (mE a K).val.kind = K + 1 + a.addr.length + 1 := rfl
@[simp] theorem mE_vn : (mE a K).val.n = K + 1 + a.addr.length + 1 + 1 := rfl
@[simp] theorem mE_vs : (mE a K).val.s = mkL a.val.s.length (K + 1 + a.addr.length + 1 + 1 + 1) := rfl
@[simp] theorem mE_vk : (mE a K).val.k = mBB a.val.k (K + 1 + a.addr.length + 1 + 1 + 1 + a.val.s.length) := rfl
@[simp] theorem mE_vl : (mE a K).val.l = mVs a.val.l (K + 1 + a.addr.length + 1 + 1 + 1 + a.val.s.length + mkBs a.val.k) := rfl
@[simp] theorem mE_deps : (mE a K).deps = mBB a.deps (K + 1 + a.addr.length + 1 + 1 + 1 + a.val.s.length + mkBs a.val.k + mkVs a.val.l) := rfl
end
theorem p56 (b : Bool) (l : List Ev) (k : Int) (h0 : 0 ≤ k) (h1 : k + mkAs (eAs l) ≤ 4611686018427387904) (h2 : ∀ a ∈ l, ALen (eA a)) (hl : l.length ≤ 1048576) : phi C0 (lim C0) 56 [.pv b (.sl (rws eP (mEs l k))), (iv k)] [] = some ((iv (k + mkAs (eAs l))), []) := call0 Tryz.func56 (by kernel_rfl) ((show ∀ fn : Func, fn.results = #[.tmp 4] → globs fn = [0, 5, 9, 1, 18, 29, 36, 46, 56, 68, 78, 88, 97, 4] → lim C0 56 fn [.c (code Tryz.f56)] ⟨_, _⟩ = _ from fun fn hr hg => by
 simp [code, Tryz.f56, hr, hg]
 refine (loop_to (s0 := ?s4) (fun i => l.length - i) (fun i => [(5, (iv ((i : Nat)))), (1, (iv (k + (mkAs (eAs (l.take i)) : Nat))))]) (fun i => []) (fun i K => K [(5, (iv l.length)), (1, (iv (k + mkAs (eAs l))))] []) (fun i => i ≤ l.length) 0 ?hc4 ?h04 ?hs4 ?step4).trans ?r4
 case hc4 => simp; rfl
 case h04 => first | (simp; done) | (simp [*]; done) | exact ⟨by simp, ⟨rfl⟩⟩ | grind | (simp; omega)
 case hs4 => first | (simp; done) | (simp [*]; done)
 case r4 => simp [hg, hr]
 intro n i hi ih
 simp [hg]
 (first | refine ifL_cases (fun h => ?_) (fun h => ?_) | refine gI_cases' (fun h => ?_) (fun h => ?_) | refine gI_cases (fun h => ?_) (fun h => ?_) | refine dI_cases' (fun h => ?_) (fun h => ?_) | refine dI_cases (fun h => ?_) (fun h => ?_)) <;> first | replace h := of_decide_eq_true h | replace h := of_decide_eq_false h | skip
 · have hlt := h
   have e1 : mkAs (eAs (l.take (i + 1))) = mkAs (eAs (l.take i)) + mkA (eA l[i]) := by
    rw [eAs_take, eAs_take, mkAs_at (by simpa using hlt), eAs_at]
   have e2 : mkAs (eAs (l.take (i + 1))) ≤ mkAs (eAs l) := by rw [eAs_take]; exact mkAs_le _ _
   have e3 : mkA (eA l[i]) = 4 + l[i].addr.length + l[i].val.s.length + mkBs l[i].val.k + mkVs l[i].val.l + mkBs l[i].deps := rfl
   have ha := h2 _ (List.getElem_mem hlt)
   have hv : VLen l[i].val := ha.vl
   have hd : l[i].deps.length ≤ 1048576 := ha.dl.1
   obtain ⟨K, hK⟩ : ∃ K : Int, K = k + (mkAs (eAs (l.take i)) : Nat) := ⟨_, rfl⟩
   have q1 := fun b => p77 b l[i].addr.length (K + 1) (by omega) (by omega)
   have u1 : ¬ (K + 1 + l[i].addr.length < 0) := by omega
   have q2 := fun b => p77 b l[i].val.s.length (K + 1 + l[i].addr.length + 1 + 1 + 1) (by omega) (by omega)
   have u2 : ¬ (K + 1 + l[i].addr.length + 1 + 1 + 1 + l[i].val.s.length < 0) := by omega
   have q3 := fun b => p78 b l[i].val.k (K + 1 + l[i].addr.length + 1 + 1 + 1 + l[i].val.s.length) (by omega) (by omega) (by have := hv.here.2.1.1; omega)
   have u3 : ¬ (K + 1 + l[i].addr.length + 1 + 1 + 1 + l[i].val.s.length + mkBs l[i].val.k < 0) := by omega
   have q4 := fun b => pHeldV l[i].val hv b (K + 1 + l[i].addr.length + 1 + 1 + 1 + l[i].val.s.length + mkBs l[i].val.k) (by omega) (by omega)
   have u4 : ¬ (K + 1 + l[i].addr.length + 1 + 1 + 1 + l[i].val.s.length + mkBs l[i].val.k + mkVs l[i].val.l < 0) := by omega
   have q5 := fun b => p78 b l[i].deps (K + 1 + l[i].addr.length + 1 + 1 + 1 + l[i].val.s.length + mkBs l[i].val.k + mkVs l[i].val.l) (by omega) (by omega) (by omega)
   have u5 : ¬ (K + 1 + l[i].addr.length + 1 + 1 + 1 + l[i].val.s.length + mkBs l[i].val.k + mkVs l[i].val.l + mkBs l[i].deps < 0) := by omega
   simp [hg, hlt, ← hK, hr, hg]
   try simp (disch := omega) only [wrap_id']
   repeat (simp [hg, hlt, ← hK, q1, u1, q2, u2, q3, u3, q4, u4, q5, u5]; try simp (disch := omega) only [wrap_id'])
   refine (ih.out (i + 1) _ ?_ ?_ ?_).trans ?_
   · omega
   · omega
   · simp [hg, e1, e3]; omega
   · rfl
 · have e : i = l.length := by omega
   subst e
   simp [hg]
 ) Tryz.f56 Tryz.results56 gl56)
theorem p55 (s : Sta) (k : Int) (b1 b2 : Bool) (h0 : 0 ≤ k) (h1 : k + s.pend.length + mkAs (nAs s.ents) ≤ 4611686018427387904) (h2 : ∀ x ∈ s.ents, ALen (nA x)) (hl : s.ents.length ≤ 1048576) : phi C0 (lim C0) 55 [.ag [(iv s.serial), (bv s.opn), .pv b1 (.sl (nums .u8 (mkL s.pend.length k))), (iv s.act), .pv b2 (.sl (rws nP (mNs s.ents (k + s.pend.length))))], (iv k)] [] = some ((iv (k + s.pend.length + mkAs (nAs s.ents))), []) := call0 Tryz.func55 (by kernel_rfl) ((show ∀ fn : Func, fn.results = #[.tmp 4] → lim C0 55 fn [.c (code Tryz.f55)] ⟨_, _⟩ = _ from fun fn hr => by
 have q1 := fun b => p77 b s.pend.length k (by omega) (by omega)
 have q2 := fun b => p98 b s.ents (k + s.pend.length) (by omega) (by omega) h2 hl
 have u1 : ¬ (k + s.pend.length < 0) := by omega
 have u2 : ¬ (k + s.pend.length + mkAs (nAs s.ents) < 0) := by omega
 simp [code, Tryz.f55, hr, q1, q2, u1, u2]
 ) Tryz.f55 Tryz.results55)
theorem p21 (h : His) (k : Int) (b1 b2 b3 : Bool) (h0 : 0 ≤ k) (h1 : k + h.base.pend.length + mkAs (nAs h.base.ents) + mkAs (eAs h.evs) ≤ 4611686018427387904) (h2 : ∀ x ∈ h.base.ents, ALen (nA x)) (hl : h.base.ents.length ≤ 1048576) (h3 : ∀ x ∈ h.evs, ALen (eA x)) (hel : h.evs.length ≤ 1048576) : phi C0 (lim C0) 21 [.ag [(iv h.base.serial), (bv h.base.opn), .pv b1 (.sl (nums .u8 (mkL h.base.pend.length k))), (iv h.base.act), .pv b2 (.sl (rws nP (mNs h.base.ents (k + h.base.pend.length)))), .pv b3 (.sl (rws eP (mEs h.evs (k + h.base.pend.length + mkAs (nAs h.base.ents))))), (iv h.safe)], (iv k)] [] = some ((iv (k + h.base.pend.length + mkAs (nAs h.base.ents) + mkAs (eAs h.evs))), []) := call0 Tryz.func21 (by kernel_rfl) ((show ∀ fn : Func, fn.results = #[.tmp 4] → lim C0 21 fn [.c (code Tryz.f21)] ⟨_, _⟩ = _ from fun fn hr => by
 have q1 := p55 h.base k b1 b2 (by omega) (by omega) h2 hl
 have q2 := fun b => p56 b h.evs (k + h.base.pend.length + mkAs (nAs h.base.ents)) (by omega) (by omega) h3 hel
 have u1 : ¬ (k + h.base.pend.length + mkAs (nAs h.base.ents) < 0) := by omega
 have u2 : ¬ (k + h.base.pend.length + mkAs (nAs h.base.ents) + mkAs (eAs h.evs) < 0) := by omega
 simp [code, Tryz.f21, hr, q1, q2, u1, u2]
 ) Tryz.f21 Tryz.results21)
end Go.Proofs.YtgbfmdihmnpcdaaGreatDoor
