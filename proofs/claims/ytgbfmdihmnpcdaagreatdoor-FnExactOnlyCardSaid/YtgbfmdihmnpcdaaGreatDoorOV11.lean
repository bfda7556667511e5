/- Texts of plans, by the reference. -/
import Derived.Test.YtgbfmdihmnpcdaaGreatDoorV8
import Derived.Test.YtgbfmdihmnpcdaaGreatDoorV9
namespace Go.Proofs.YtgbfmdihmnpcdaaGreatDoor
open Go Go.Pm Go.Proofs
set_option linter.unusedVariables false
set_option linter.unusedSimpArgs false
set_option maxRecDepth 100000
set_option maxHeartbeats 4000000
/-! ### how long texts are -/
theorem bytes_back {l : List Int} (h : byteOk l = true) : (strOfNums l).data.toList.map (fun (c : UInt8) => [PV.sc (.int .u8 c.toNat)]) = nums .u8 l := by
  have e : (strOfNums l).data.toList = l.map toU := by rw [← ByteArray.toList_eq, str_list]
  rw [e, List.map_map]
  refine List.map_congr_left fun x hx => ?_
  have := toU_nat (byteOk_mem h x hx)
  simp [this]
theorem ascB_len : ∀ {k : List (List Int)} {q : Option (List Int)}, ascB q k = true → ∀ x ∈ k, x.length ≤ 8
  | [], _, _, x, hx => by cases hx
  | a :: k, q, h, x, hx => by
    have h1 : nameB a = true ∧ ascB (some a) k = true := by cases q <;> simp [ascB] at h <;> simp [h]
    rcases List.mem_cons.1 hx with rfl | hx
    · have := h1.1; simp [nameB] at this; omega
    · exact ascB_len h1.2 x hx
theorem sayL_len {m : Bool} : ∀ (l : List Val) (f : Bool) (k : List (List Int)), (∀ u ∈ l, (sayV u).length + 13 ≤ 73 * ptV u) → (∀ x ∈ k, x.length ≤ 8) → (sayL m f k l).length ≤ 73 * ptVs l
  | [], _, _, _, _ => by simp
  | v :: l, f, k, hu, hk => by
    have h1 := hu v (List.mem_cons_self ..)
    have h2 := sayL_len (m := m) l false k.tail (fun u h => hu u (List.mem_cons_of_mem _ h)) (fun x h => hk x (List.mem_of_mem_tail h))
    have h3 : (keyT m k).length ≤ 11 := by
      cases m
      · simp [keyT]
      · cases k with
        | nil => simp [keyT]
        | cons a k => have := hk a (List.mem_cons_self ..); simp [keyT]; omega
    simp only [sayL, List.length_append, ptVs]
    cases f <;> simp <;> omega
theorem digT_len {n : Int} (h0 : -4611686018427387904 ≤ n) (h1 : n ≤ 4611686018427387904) : (digT n).length ≤ 20 := by
  unfold digT
  split
  · have := digN_le (n := (-n).toNat) (by omega)
    simp; omega
  · have := digN_le (n := n.toNat) (by omega)
    omega
/-- What the reference's text of a value asks of it. -/
def VSay : Val → Prop := VAll fun v => (v.kind = 1 → v.n = 0 ∨ v.n = 1) ∧ (v.kind = 2 → -4611686018427387904 ≤ v.n ∧ v.n ≤ 4611686018427387904) ∧ v.s.length ≤ 1048576 ∧ (v.kind = 5 → v.k.length = v.l.length) ∧ (sayV v).length ≤ 1099511627776 ∧ v.l.length ≤ 1048576
theorem sh_sub {v : Val} {left : Int} (h : shV v left = true) : ∀ u ∈ v.l, shV u (left - 1) = true := by
  rw [shV_eq] at h
  intro u hu
  have key : anyB (fun x => !shV x (left - 1)) v.l = false → shV u (left - 1) = true := by
    have hs := shVs_any v.l (left - 1)
    rw [shVs_eq] at hs
    intro ha
    rw [ha] at hs
    exact List.all_eq_true.1 hs u hu
  split at h
  · cases h
  split at h
  · simp at h; rw [h.2] at hu; cases hu
  split at h
  · simp at h; rw [h.2] at hu; cases hu
  split at h
  · simp at h; rw [h.2] at hu; cases hu
  split at h
  · simp at h; rw [h.2] at hu; cases hu
  split at h
  · simp only [Bool.and_eq_true, Bool.not_eq_true'] at h; exact key h.2.2
  split at h
  · simp only [Bool.and_eq_true, Bool.not_eq_true'] at h; exact key h.2.2
  · cases h
theorem say_len : ∀ (v : Val) (left : Int), shV v left = true → (sayV v).length + 13 ≤ 73 * ptV v := by
  refine Val.ind1 fun v ih left h => ?_
  have hsub := sh_sub h
  have hp := ptV_eq v
  have hl := ptVs_len v.l
  rw [shV_eq] at h
  rw [sayV_eq]
  split at h
  · cases h
  by_cases k0 : v.kind = 0
  · simp [k0]; omega
  by_cases k1 : v.kind = 1
  · simp [k1]; split <;> simp <;> omega
  by_cases k2 : v.kind = 2
  · simp [k2, inI] at h
    have := digT_len (n := v.n) (by omega) (by omega)
    simp [k2]; omega
  by_cases k3 : v.kind = 3
  · simp [k3, textB] at h
    have := quoB_len v.s
    simp [k3, quoT]; omega
  by_cases k6 : v.kind = 6
  · simp [k6]; omega
  have hu : ∀ u ∈ v.l, (sayV u).length + 13 ≤ 73 * ptV u := fun u hu => ih u hu _ (hsub u hu)
  by_cases k5 : v.kind = 5
  · simp only [k5] at h
    simp at h
    have := sayL_len (m := true) v.l true v.k hu (ascB_len h.1.2)
    simp [k5]; omega
  by_cases k4 : v.kind = 4
  · simp only [k4] at h
    simp at h
    have := sayL_len (m := false) v.l true v.k hu (by rw [h.1]; intro x hx; cases hx)
    simp [k4]; omega
  · simp [k0, k1, k2, k3, k4, k5, k6] at h
theorem sh_say : ∀ (v : Val) (left : Int), shV v left = true → VLen v → ptV v ≤ 1048577 → VSay v := by
  refine Val.ind1 fun v ih left h hv hp => ?_
  have hlen := say_len v left h
  have hsub := sh_sub h
  refine .mk ⟨?_, ?_, hv.here.1, ?_, by omega, hv.here.2.2⟩ fun u hu => ih u hu _ (hsub u hu) (hv.sub u hu) (by have := ptVs_mem hu; have := ptV_eq v; omega)
  · intro k
    rw [shV_eq] at h
    split at h
    · cases h
    simp [k, inI] at h
    omega
  · intro k
    rw [shV_eq] at h
    split at h
    · cases h
    simp [k, inI] at h
    omega
  · intro k
    rw [shV_eq] at h
    split at h
    · cases h
    simp only [k] at h
    simp at h
    exact h.1.1
theorem pSay (v : Val) (hv : VSay v) : phi C0 (lim C0) 61 [.ag [(.pv false (.sc (.int .i64 v.kind))), (.pv false (.sc (.int .i64 v.n))), .pv false (.sl (nums .u8 v.s)), .pv false (.sl (rws byP v.k)), .pv false (.sl (rws vP v.l))]] [] = some (.ref 16 0 (sayV v).length, [(16, .row .own 5 1 (nums .u8 (sayV v)))]) := by
  revert hv
  refine Val.ind1 (P := fun v => VSay v → phi C0 (lim C0) 61 [.ag [(.pv false (.sc (.int .i64 v.kind))), (.pv false (.sc (.int .i64 v.n))), .pv false (.sl (nums .u8 v.s)), .pv false (.sl (rws byP v.k)), .pv false (.sl (rws vP v.l))]] [] = some (.ref 16 0 (sayV v).length, [(16, .row .own 5 1 (nums .u8 (sayV v)))])) (fun v ih hv => ?_) v
  obtain ⟨a1, a2, a3, a4, a5, a6⟩ := hv.here
  exact p61 v a1 a2 a3 a4 a5 a6 fun u hu => ih u hu (hv.sub u hu)
theorem any_no {α : Type} {g : α → Bool} {l : List α} (h : anyB g l = false) : ∀ a ∈ l, g a = false := by
  induction l with
  | nil => intro a ha; cases ha
  | cons x l ih =>
    simp only [anyB, Bool.or_eq_false_iff] at h
    intro a ha
    rcases List.mem_cons.1 ha with rfl | ha
    · exact h.1
    · exact ih h.2 a ha
theorem any_snoc {α : Type} (g : α → Bool) (l : List α) (a : α) : anyB g (l ++ [a]) = (anyB g l || g a) := by
  induction l with
  | nil => simp [anyB]
  | cons x l ih => simp [anyB, ih, Bool.or_assoc]
theorem anyB_at {α : Type} {g : α → Bool} {l : List α} {i : Nat} (h : i < l.length) : anyB g (l.drop i) = (g l[i] || anyB g (l.drop (i + 1))) := by rw [drop_at h]; rfl
@[simp] theorem anyB_nil {α : Type} (g : α → Bool) : anyB g [] = false := rfl
theorem actT_ok (n : Int) : byteOk (actT n) = true ∧ (actT n).length ≤ 7 ∧ actT n ≠ [] := by
  unfold actT
  repeat' split
  all_goals decide
/-! ### plans -/
def lineT (a : Act) : List Int := actT a.act ++ [32] ++ a.addr ++ (if a.act = 4 then [] else [32] ++ sayV a.val) ++ [10]
def linesT : List Act → List Int
  | [] => []
  | a :: l => lineT a ++ linesT l
def planT (l : List Act) (same : Int) : List Int := linesT l ++ [107, 101, 101, 112, 32] ++ digT same ++ [10]
@[simp] theorem linesT_nil : linesT [] = [] := rfl
theorem linesT_app (l k : List Act) : linesT (l ++ k) = linesT l ++ linesT k := by
  induction l with
  | nil => rfl
  | cons a l ih => simp [linesT, ih]
theorem linesT_take {l : List Act} {i : Nat} (h : i < l.length) : linesT (l.take (i + 1)) = linesT (l.take i) ++ lineT l[i] := by rw [take_at h, linesT_app]; simp [linesT]
theorem splitB_len {l : List Int} (h : splitB l = true) : l.length ≤ 1048576 → True := fun _ => trivial
/-- A line of an act that is ok is short; what stands before it is told by its number. -/
theorem linesT_len : ∀ {l : List Act}, (∀ a ∈ l, actB a = true ∧ a.addr.length ≤ 1048576) → (linesT l).length ≤ 1051600 * l.length
  | [], _ => by simp [linesT]
  | a :: l, h => by
    have ih := linesT_len (l := l) fun x hx => h x (List.mem_cons_of_mem _ hx)
    obtain ⟨h1, h2⟩ := h a (List.mem_cons_self ..)
    simp only [actB, Bool.and_eq_true, valB, decide_eq_true_eq] at h1
    have h3 := say_len a.val 5 h1.2.1
    have h4 : (actT a.act).length ≤ 7 := by
      unfold actT
      repeat' split
      all_goals decide
    simp only [linesT, lineT, List.length_append, List.length_cons]
    split <;> simp <;> omega
theorem p23 (b : Bool) (l : List Act) (same : Int) (hl : l.length ≤ 1048576) (ha : ∀ a ∈ l, ALen a ∧ AOk a) : phi C0 (lim C0) 23 [.ag [.pv b (.sl (rws aP l)), (.pv false (.sc (.int .i64 same)))]] [] = some (.ref 16 0 (if planB l same then planT l same else []).length, [(16, .row .own 5 1 (nums .u8 (if planB l same then planT l same else [])))]) := call0 Tryz.func23 (by kernel_rfl) ((show ∀ fn : Func, fn.results = #[.tmp 2] → globs fn = [0, 1, 19, 4, 24, 5, 51, 3, 64, 2] → lim C0 23 fn [.c (code Tryz.f23)] ⟨_, _⟩ = _ from fun fn hr hg => by
  have hp10 := plan23_10
  simp [opsOf, code, Tryz.f23] at hp10
  have hp12 := plan23_12
  simp [opsOf, code, Tryz.f23] at hp12
  have hp14 := plan23_14
  simp [opsOf, code, Tryz.f23] at hp14
  simp [code, Tryz.f23, hr, hg, hp10, hp12, hp14]
  repeat' ((first | refine ifL_cases (fun h => ?_) (fun h => ?_) | refine gI_cases' (fun h => ?_) (fun h => ?_) | refine gI_cases (fun h => ?_) (fun h => ?_) | refine dI_cases' (fun h => ?_) (fun h => ?_) | refine dI_cases (fun h => ?_) (fun h => ?_)) <;> first | replace h := of_decide_eq_true h | replace h := of_decide_eq_false h | skip
           all_goals try simp [hr, hg, hp10, hp12, hp14, *])
  all_goals try (have e : planB l same = false := by (simp [hg, planB, inI]; omega)
                 simp [hg, e]; done)
  have e0 : planB l same = !anyB (fun a => !actB a) l := by
    unfold planB inI
    rw [decide_eq_true (by omega : l.length ≤ 32), decide_eq_true (by omega : 0 ≤ same), decide_eq_true (by omega : same ≤ 16)]
    rfl
  rw [e0]
  refine (loop_to (s0 := ?s1) (fun i => l.length - i) (fun i => [(3, slT 18 (linesT (l.take i))), (4, (.pv false (.sc (.int .i64 ((i : Nat))))))]) (fun i => [(16, .box [.pv b (.sl (rws aP l)), (.pv false (.sc (.int .i64 same)))])] ++ slH 18 5 1 (numP .u8) (linesT (l.take i))) (fun i K => (if anyB (fun a => !actB a) (l.drop i) then some (.ref 16 0 0, [(16, .row .own 5 1 [])]) else K [(3, slT 18 (linesT l)), (4, (.pv false (.sc (.int .i64 l.length))))] ([(16, .box [.pv b (.sl (rws aP l)), (.pv false (.sc (.int .i64 same)))])] ++ slH 18 5 1 (numP .u8) (linesT l)))) (fun i => i ≤ l.length ∧ anyB (fun a => !actB a) (l.take i) = false) 0 ?hc1 ?h01 ?hs1 ?step1).trans ?r1
  case hc1 => simp; rfl
  case h01 => first | (simp; done) | (simp [*]; done) | exact ⟨by simp, ⟨rfl⟩⟩ | grind | (simp; omega)
  case hs1 => first | (simp; done) | (simp [*]; done)
  case r1 =>
    rcases hab : anyB (fun a => !actB a) l with _ | _
    · have q := pDig same (by omega) (by omega)
      have hd := digT_len (n := same) (by omega) (by omega)
      have hL := linesT_len (l := l) (fun a hm => ⟨by have := any_no hab a hm; simpa using this, (ha a hm).1.addr⟩)
      unfold planT
      generalize digT same = d at *
      generalize linesT l = acc at *
      simp only [List.drop_zero, hab, Bool.false_eq_true, if_false, Bool.not_false, if_true, ite_true, ite_false]
      rcases acc with _ | ⟨c, acc⟩
      · simp only [slT_nil, slH_nil]
        have g0 := room_ok (n := 5) (by omega)
        have m0 := max_ok' (n := 5) (by omega)
        have g1 := room_ok (n := 5 + d.length) (by omega)
        have m1 := max_ok' (n := 5 + d.length) (by omega)
        have g2 := room_ok (n := 5 + d.length + 1) (by omega)
        have m2 := max_ok' (n := 5 + d.length + 1) (by omega)
        have s1 := spare_no (a := 5 + d.length) (b := d.length + 1 + 1 + 1 + 1 + 1) (by omega)
        have l1 := le_ok' (a := 5 + d.length) (b := d.length + 1 + 1 + 1 + 1 + 1) (by omega)
        simp [hg, q, g0, m0, g1, m1, g2, m2, s1, l1, hr, hg, hp10, hp12, hp14]
        (repeat rw [List.take_of_length_le (by first | (simp; done) | (simp; omega))])
        simp [hg, rws]
        omega
      · simp at hL
        simp only [slT_cons, slH_cons]
        have g0 := room_ok (n := acc.length + 1 + 5) (by omega)
        have m0 := max_ok' (n := acc.length + 1 + 5) (by omega)
        have g1 := room_ok (n := acc.length + 1 + 5 + d.length) (by omega)
        have m1 := max_ok' (n := acc.length + 1 + 5 + d.length) (by omega)
        have g2 := room_ok (n := acc.length + 1 + 5 + d.length + 1) (by omega)
        have m2 := max_ok' (n := acc.length + 1 + 5 + d.length + 1) (by omega)
        simp [hg, q, g0, m0, g1, m1, g2, m2, hr, hg, hp10, hp12, hp14]
        (repeat rw [List.take_of_length_le (by first | (simp; done) | (simp; omega))])
        simp [hg, rws]
        omega
    · simp [hg, hab]
  rintro k i ⟨hi, hn⟩ ih
  simp [hg]
  (first | refine ifL_cases (fun h => ?_) (fun h => ?_) | refine gI_cases' (fun h => ?_) (fun h => ?_) | refine gI_cases (fun h => ?_) (fun h => ?_) | refine dI_cases' (fun h => ?_) (fun h => ?_) | refine dI_cases (fun h => ?_) (fun h => ?_)) <;> first | replace h := of_decide_eq_true h | replace h := of_decide_eq_false h | skip
  · have hlt := h
    have hm := List.getElem_mem hlt
    rw [anyB_at hlt]
    have q1 := p58 l[i].addr (ha _ hm).1.addr
    have q2 := fun b1 b2 b3 => p59 l[i].val (ha _ hm).1.vl (ha _ hm).2.vb b1 b2 b3
    rw [addr_is] at q1
    simp only [valOk_is] at q2
    have hacc := linesT_len (l := l.take i) (fun a h => ⟨by have := any_no hn a h; simpa using this, (ha a (List.mem_of_mem_take h)).1.addr⟩)
    have e1 := linesT_take hlt
    have e2 : (l.take i).length ≤ 32 := by simp [hg]; omega
    generalize linesT (l.take i) = acc at *
    cases hok : actB l[i]
    · rcases acc with _ | ⟨c, acc⟩
      · simp [hg, hlt, q1, q2, hr, hg, hp10, hp12, hp14]
        repeat' ((first | refine ifL_cases (fun h => ?_) (fun h => ?_) | refine gI_cases' (fun h => ?_) (fun h => ?_) | refine gI_cases (fun h => ?_) (fun h => ?_) | refine dI_cases' (fun h => ?_) (fun h => ?_) | refine dI_cases (fun h => ?_) (fun h => ?_)) <;> first | replace h := of_decide_eq_true h | replace h := of_decide_eq_false h | skip
                 all_goals try simp [hr, hg, hp10, hp12, hp14, hlt, q1, q2, *])
        all_goals (try simp_all [actB, inI]; try omega)
      · simp [hg, hlt, q1, q2, hr, hg, hp10, hp12, hp14]
        repeat' ((first | refine ifL_cases (fun h => ?_) (fun h => ?_) | refine gI_cases' (fun h => ?_) (fun h => ?_) | refine gI_cases (fun h => ?_) (fun h => ?_) | refine dI_cases' (fun h => ?_) (fun h => ?_) | refine dI_cases (fun h => ?_) (fun h => ?_)) <;> first | replace h := of_decide_eq_true h | replace h := of_decide_eq_false h | skip
                 all_goals try simp [hr, hg, hp10, hp12, hp14, hlt, q1, q2, *])
        all_goals (try simp_all [actB, inI]; try omega)
    · have hb : 1 ≤ l[i].act ∧ l[i].act ≤ 4 := by simp [hg, actB, inI] at hok; omega
      have hb2 : addrB l[i].addr = true ∧ valB l[i].val = true := by simp [hg, actB] at hok; exact ⟨hok.1.2, hok.2⟩
      have c1 : ¬ l[i].act < 1 := by omega
      have c2 : ¬ 4 < l[i].act := by omega
      have q3 := p60 l[i].act (by omega) (by omega)
      obtain ⟨w1, w2, w3⟩ := actT_ok l[i].act
      have q4 := bytes_back w1
      have q5 : (strOfNums (actT l[i].act)).size = (actT l[i].act).length := strOfNums_size _
      have hv5 : shV l[i].val 5 = true ∧ ptV l[i].val ≤ 40 := by have := hb2.2; simpa [valB] using this
      have q6 := pSay l[i].val (sh_say _ 5 hv5.1 (ha _ hm).1.vl (by omega))
      have hu := say_len l[i].val 5 hv5.1
      have hd : l[i].addr.length ≤ 1048576 := (ha _ hm).1.addr
      unfold lineT at e1
      generalize sayV l[i].val = u at *
      generalize actT l[i].act = w at *
      rcases acc with _ | ⟨c, acc⟩
      · obtain ⟨d, hd0⟩ : ∃ d, l[i].addr = d := ⟨_, rfl⟩
        rw [hd0] at hd e1 q1 hb2
        have g0 := room_ok (n := w.length) (by omega)
        have m0 := max_ok' (n := w.length) (by omega)
        have g1 := room_ok (n := w.length + 1) (by omega)
        have m1 := max_ok' (n := w.length + 1) (by omega)
        have g2 := room_ok (n := w.length + 1 + d.length) (by omega)
        have m2 := max_ok' (n := w.length + 1 + d.length) (by omega)
        have g3 := room_ok (n := w.length + 1 + d.length + 1) (by omega)
        have m3 := max_ok' (n := w.length + 1 + d.length + 1) (by omega)
        have g4 := room_ok (n := w.length + 1 + d.length + 1 + u.length) (by omega)
        have m4 := max_ok' (n := w.length + 1 + d.length + 1 + u.length) (by omega)
        have g5 := room_ok (n := w.length + 1 + d.length + 1 + u.length + 1) (by omega)
        have m5 := max_ok' (n := w.length + 1 + d.length + 1 + u.length + 1) (by omega)
        simp only [slT_nil, slH_nil]
        simp [hg, hlt, c1, c2, q1, q2, q3, q4, q5, q6, hb2, hd0, g0, m0, g1, m1, g2, m2, g3, m3, g4, m4, g5, m5, hr, hg, hp10, hp12, hp14]
        by_cases h4 : l[i].act = 4
        · simp [hg, h4, q6, g0, m0, g1, m1, g2, m2, g3, m3, g4, m4, g5, m5, hr, hg, hp10, hp12, hp14]
          (repeat rw [List.take_of_length_le (by first | (simp; done) | (simp; omega))])
          try simp (disch := omega) only [wrap_id']
          refine (ih.out (i + 1) _ ?_ ?_ ?_).trans ?_
          · omega
          · exact ⟨by omega, by rw [take_at hlt, any_snoc, hn, hok]; rfl⟩
          · rw [e1, if_pos h4] ; simp [hg, rws]; try omega
          · simp [hg]
        · simp [hg, h4, q6, g0, m0, g1, m1, g2, m2, g3, m3, g4, m4, g5, m5, hr, hg, hp10, hp12, hp14]
          (repeat rw [List.take_of_length_le (by first | (simp; done) | (simp; omega))])
          try simp (disch := omega) only [wrap_id']
          refine (ih.out (i + 1) _ ?_ ?_ ?_).trans ?_
          · omega
          · exact ⟨by omega, by rw [take_at hlt, any_snoc, hn, hok]; rfl⟩
          · rw [e1, if_neg h4] ; simp [hg, rws]; try omega
          · simp [hg]
      · obtain ⟨d, hd0⟩ : ∃ d, l[i].addr = d := ⟨_, rfl⟩
        rw [hd0] at hd e1 q1 hb2
        simp at hacc
        have g0 := room_ok (n := acc.length + 1 + w.length) (by omega)
        have m0 := max_ok' (n := acc.length + 1 + w.length) (by omega)
        have g1 := room_ok (n := acc.length + 1 + w.length + 1) (by omega)
        have m1 := max_ok' (n := acc.length + 1 + w.length + 1) (by omega)
        have g2 := room_ok (n := acc.length + 1 + w.length + 1 + d.length) (by omega)
        have m2 := max_ok' (n := acc.length + 1 + w.length + 1 + d.length) (by omega)
        have g3 := room_ok (n := acc.length + 1 + w.length + 1 + d.length + 1) (by omega)
        have m3 := max_ok' (n := acc.length + 1 + w.length + 1 + d.length + 1) (by omega)
        have g4 := room_ok (n := acc.length + 1 + w.length + 1 + d.length + 1 + u.length) (by omega)
        have m4 := max_ok' (n := acc.length + 1 + w.length + 1 + d.length + 1 + u.length) (by omega)
        have g5 := room_ok (n := acc.length + 1 + w.length + 1 + d.length + 1 + u.length + 1) (by omega)
        have m5 := max_ok' (n := acc.length + 1 + w.length + 1 + d.length + 1 + u.length + 1) (by omega)
        simp only [slT_cons, slH_cons]
        have s1 := spare_no (a := acc.length + 1 + w.length) (b := acc.length + w.length + 1) (by omega)
        have l1 := le_ok' (a := acc.length + 1 + w.length) (b := acc.length + w.length + 1) (by omega)
        simp [hg, hlt, c1, c2, q1, q2, q3, q4, q5, q6, hb2, hd0, s1, l1, g0, m0, g1, m1, g2, m2, g3, m3, g4, m4, g5, m5, hr, hg, hp10, hp12, hp14]
        by_cases h4 : l[i].act = 4
        · simp [hg, h4, q6, s1, l1, g0, m0, g1, m1, g2, m2, g3, m3, g4, m4, g5, m5, hr, hg, hp10, hp12, hp14]
          (repeat rw [List.take_of_length_le (by first | (simp; done) | (simp; omega))])
          try simp (disch := omega) only [wrap_id']
          refine (ih.out (i + 1) _ ?_ ?_ ?_).trans ?_
          · omega
          · exact ⟨by omega, by rw [take_at hlt, any_snoc, hn, hok]; rfl⟩
          · rw [e1, if_pos h4] ; simp [hg, rws]; try omega
          · simp [hg]
        · simp [hg, h4, q6, s1, l1, g0, m0, g1, m1, g2, m2, g3, m3, g4, m4, g5, m5, hr, hg, hp10, hp12, hp14]
          (repeat rw [List.take_of_length_le (by first | (simp; done) | (simp; omega))])
          try simp (disch := omega) only [wrap_id']
          refine (ih.out (i + 1) _ ?_ ?_ ?_).trans ?_
          · omega
          · exact ⟨by omega, by rw [take_at hlt, any_snoc, hn, hok]; rfl⟩
          · rw [e1, if_neg h4] ; simp [hg, rws]; try omega
          · simp [hg]
  · have e : i = l.length := by omega
    subst e
    simp only [List.take_length, List.drop_length, anyB_nil]
    generalize linesT l = acc
    rcases acc with _ | ⟨c, acc⟩ <;> simp [hg]
  ) Tryz.f23 Tryz.results23 gl23)
end Go.Proofs.YtgbfmdihmnpcdaaGreatDoor
