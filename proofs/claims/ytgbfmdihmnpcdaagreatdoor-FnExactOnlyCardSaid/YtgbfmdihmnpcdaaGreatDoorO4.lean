/- Only, by the program. -/
import Derived.Test.YtgbfmdihmnpcdaaGreatDoorO1
import Derived.Test.YtgbfmdihmnpcdaaGreatDoorV10
namespace Go.Proofs.YtgbfmdihmnpcdaaGreatDoor
open Go Go.Pm Go.Proofs
set_option linter.unusedVariables false
set_option linter.unusedSimpArgs false
set_option maxRecDepth 100000
set_option maxHeartbeats 4000000
theorem p31 (b b' : Bool) (d : List Int) (a : Act) (hd : byteOk d = true) (ha : byteOk a.addr = true) : phi C0 (lim C0) 31 [.pv b (.sl (nums .u8 d)), .pv b' (.pt [.sc (.int .i64 a.act), .sl (nums .u8 a.addr), .sc (.int .i64 a.item), .sc (.int .i64 a.val.kind), .sc (.int .i64 a.val.n), .sl (nums .u8 a.val.s), .sl (rws byP a.val.k), .sl (rws vP a.val.l), .sl (rws byP a.deps)])] [] = some ((.pv false (.sc (.bool (decide (d = a.addr))))), []) := call0 Tryz.func31 (by kernel_rfl) ((show ∀ fn : Func, fn.results = #[.tmp 3] → lim C0 31 fn [.c (code Tryz.f31)] ⟨_, _⟩ = _ from fun fn hr => by
  have q := fun b b' => p32 b b' d a.addr hd ha
  simp [code, Tryz.f31, hr, q]
  ) Tryz.f31 Tryz.results31)
theorem p71 (b b' : Bool) (l : List (List Int)) (g : List Int → Bool) (f : Nat) (cs : List PV) (hl : l.length ≤ 1048576) (hs : sgOf f = ⟨[], .d, false⟩) (hf : ∀ v ∈ l, ∀ b : Bool, phi C0 (lim C0) f [.pv b (.sl (nums .u8 v)), .pv b' (.pt cs)] [] = some ((.pv false (.sc (.bool (g v)))), [])) : phi C0 (lim C0) 71 [.pv b (.sl (rws byP l)), .pv b' (.cl f [.pt cs])] [] = some ((.pv false (.sc (.int .i64 (fstB g l 0)))), []) := call0 Tryz.func71 (by kernel_rfl) ((show ∀ fn : Func, fn.results = #[.tmp 4] → globs fn = [0, 8, 7, 9, 5, 1, 16, 4] → lim C0 71 fn [.c (code Tryz.f71)] ⟨_, _⟩ = _ from fun fn hr hg => by
  simp [code, Tryz.f71, hr, hg]
  refine (loop_to (s0 := ?s1) (fun i => l.length - i) (fun i => [(8, (.pv false (.sc (.int .i64 ((i : Nat))))))]) (fun i => []) (fun i K => (if 0 ≤ fstB g (l.drop i) i then some ((.pv false (.sc (.int .i64 (fstB g (l.drop i) i)))), []) else K [(8, (.pv false (.sc (.int .i64 l.length))))] [])) (fun i => i ≤ l.length) 0 ?hc1 ?h01 ?hs1 ?step1).trans ?r1
  case hc1 => simp; rfl
  case h01 => first | (simp; done) | (simp [*]; done) | exact ⟨by simp, ⟨rfl⟩⟩ | grind | (simp; omega)
  case hs1 => first | (simp; done) | (simp [*]; done)
  case r1 =>
    simp [hg, hr]
    intro h
    have := fstB_end (i := 0) (by omega : ¬ 0 ≤ fstB g l 0)
    omega
  intro k i hi ih
  simp [hg]
  (first | refine ifL_cases (fun h => ?_) (fun h => ?_) | refine gI_cases' (fun h => ?_) (fun h => ?_) | refine gI_cases (fun h => ?_) (fun h => ?_) | refine dI_cases' (fun h => ?_) (fun h => ?_) | refine dI_cases (fun h => ?_) (fun h => ?_)) <;> first | replace h := of_decide_eq_true h | replace h := of_decide_eq_false h | skip
  · have hlt := h
    have q := hf l[i] (List.getElem_mem hlt)
    simp [hg, hlt, q, hs, byP, hr, hg]
    rw [fstB_at hlt]
    (first | refine ifL_cases (fun h => ?_) (fun h => ?_) | refine gI_cases' (fun h => ?_) (fun h => ?_) | refine gI_cases (fun h => ?_) (fun h => ?_) | refine dI_cases' (fun h => ?_) (fun h => ?_) | refine dI_cases (fun h => ?_) (fun h => ?_)) <;> first | replace h := of_decide_eq_true h | replace h := of_decide_eq_false h | skip
    · simp [hg, hr, h]
    · simp [hg, h]
      try simp (disch := omega) only [wrap_id']
      refine (ih.out (i + 1) _ ?_ ?_ ?_).trans ?_
      · omega
      · omega
      · simp [hg]
      · rfl
  · have e : i = l.length := by omega
    subst e
    simp [hg, fstB]
  ) Tryz.f71 Tryz.results71 gl71)
theorem p30 (b b' : Bool) (l : List (List Int)) (g : List Int → Bool) (f : Nat) (cs : List PV) (hl : l.length ≤ 1048576) (hs : sgOf f = ⟨[], .d, false⟩) (hf : ∀ v ∈ l, ∀ b : Bool, phi C0 (lim C0) f [.pv b (.sl (nums .u8 v)), .pv b' (.pt cs)] [] = some ((.pv false (.sc (.bool (g v)))), [])) : phi C0 (lim C0) 30 [.pv b (.sl (rws byP l)), .pv b' (.cl f [.pt cs])] [] = some ((.pv false (.sc (.bool (anyB g l)))), []) := call0 Tryz.func30 (by kernel_rfl) ((show ∀ fn : Func, fn.results = #[.tmp 4] → lim C0 30 fn [.c (code Tryz.f30)] ⟨_, _⟩ = _ from fun fn hr => by
  have q := p71 b b' l g f cs hl hs hf
  simp [code, Tryz.f30, hr, q, fstB_any]
  ) Tryz.f30 Tryz.results30)
def needB (x : List Int) (o : Act) : Bool := anyB (fun d => decide (d = x)) o.deps
theorem p29 (b' : Bool) (o a : Act) (hl : o.deps.length ≤ 1048576) (hd : ∀ x ∈ o.deps, byteOk x = true) (ha : byteOk a.addr = true) : phi C0 (lim C0) 29 [.ag [(.pv false (.sc (.int .i64 o.act))), .pv false (.sl (nums .u8 o.addr)), (.pv false (.sc (.int .i64 o.item))), (.pv false (.sc (.int .i64 o.val.kind))), (.pv false (.sc (.int .i64 o.val.n))), .pv false (.sl (nums .u8 o.val.s)), .pv false (.sl (rws byP o.val.k)), .pv false (.sl (rws vP o.val.l)), .pv false (.sl (rws byP o.deps))], .pv b' (.pt [.sc (.int .i64 a.act), .sl (nums .u8 a.addr), .sc (.int .i64 a.item), .sc (.int .i64 a.val.kind), .sc (.int .i64 a.val.n), .sl (nums .u8 a.val.s), .sl (rws byP a.val.k), .sl (rws vP a.val.l), .sl (rws byP a.deps)])] [] = some ((.pv false (.sc (.bool (needB a.addr o)))), []) := call0 Tryz.func29 (by kernel_rfl) ((show ∀ fn : Func, fn.results = #[.tmp 3] → lim C0 29 fn [.c (code Tryz.f29)] ⟨_, _⟩ = _ from fun fn hr => by
  have q := fun b b' => p30 b b' o.deps (fun d => decide (d = a.addr)) 31 [.sc (.int .i64 a.act), .sl (nums .u8 a.addr), .sc (.int .i64 a.item), .sc (.int .i64 a.val.kind), .sc (.int .i64 a.val.n), .sl (nums .u8 a.val.s), .sl (rws byP a.val.k), .sl (rws vP a.val.l), .sl (rws byP a.deps)] hl rfl fun v hv b => p31 b b' v a (hd v hv) ha
  simp [code, Tryz.f29, hr, q, needB]
  ) Tryz.f29 Tryz.results29)
theorem p70_c (b b' : Bool) (l : List Act) (g : Act → Bool) (f : Nat) (cs : List PV) (hl : l.length ≤ 1048576) (hs : sgOf f = ⟨[], .d, false⟩) (hf : ∀ v ∈ l, phi C0 (lim C0) f [.ag [(.pv false (.sc (.int .i64 v.act))), .pv false (.sl (nums .u8 v.addr)), (.pv false (.sc (.int .i64 v.item))), (.pv false (.sc (.int .i64 v.val.kind))), (.pv false (.sc (.int .i64 v.val.n))), .pv false (.sl (nums .u8 v.val.s)), .pv false (.sl (rws byP v.val.k)), .pv false (.sl (rws vP v.val.l)), .pv false (.sl (rws byP v.deps))], .pv b' (.pt cs)] [] = some ((.pv false (.sc (.bool (g v)))), [])) : phi C0 (lim C0) 70 [.pv b (.sl (rws aP l)), .pv b' (.cl f [.pt cs])] [] = some ((.pv false (.sc (.int .i64 (fstB g l 0)))), []) := call0 Tryz.func70 (by kernel_rfl) ((show ∀ fn : Func, fn.results = #[.tmp 4] → globs fn = [0, 8, 7, 9, 5, 1, 16, 4] → lim C0 70 fn [.c (code Tryz.f70)] ⟨_, _⟩ = _ from fun fn hr hg => by
  simp [code, Tryz.f70, hr, hg]
  refine (loop_to (s0 := ?s2) (fun i => l.length - i) (fun i => [(8, (.pv false (.sc (.int .i64 ((i : Nat))))))]) (fun i => []) (fun i K => (if 0 ≤ fstB g (l.drop i) i then some ((.pv false (.sc (.int .i64 (fstB g (l.drop i) i)))), []) else K [(8, (.pv false (.sc (.int .i64 l.length))))] [])) (fun i => i ≤ l.length) 0 ?hc2 ?h02 ?hs2 ?step2).trans ?r2
  case hc2 => simp; rfl
  case h02 => first | (simp; done) | (simp [*]; done) | exact ⟨by simp, ⟨rfl⟩⟩ | grind | (simp; omega)
  case hs2 => first | (simp; done) | (simp [*]; done)
  case r2 =>
    simp [hg, hr]
    intro h
    have := fstB_end (i := 0) (by omega : ¬ 0 ≤ fstB g l 0)
    omega
  intro k i hi ih
  simp [hg]
  (first | refine ifL_cases (fun h => ?_) (fun h => ?_) | refine gI_cases' (fun h => ?_) (fun h => ?_) | refine gI_cases (fun h => ?_) (fun h => ?_) | refine dI_cases' (fun h => ?_) (fun h => ?_) | refine dI_cases (fun h => ?_) (fun h => ?_)) <;> first | replace h := of_decide_eq_true h | replace h := of_decide_eq_false h | skip
  · have hlt := h
    have q := hf l[i] (List.getElem_mem hlt)
    simp [hg, hlt, q, hs, hr, hg]
    rw [fstB_at hlt]
    (first | refine ifL_cases (fun h => ?_) (fun h => ?_) | refine gI_cases' (fun h => ?_) (fun h => ?_) | refine gI_cases (fun h => ?_) (fun h => ?_) | refine dI_cases' (fun h => ?_) (fun h => ?_) | refine dI_cases (fun h => ?_) (fun h => ?_)) <;> first | replace h := of_decide_eq_true h | replace h := of_decide_eq_false h | skip
    · simp [hg, hr, h]
    · simp [hg, h]
      try simp (disch := omega) only [wrap_id']
      refine (ih.out (i + 1) _ ?_ ?_ ?_).trans ?_
      · omega
      · omega
      · simp [hg]
      · rfl
  · have e : i = l.length := by omega
    subst e
    simp [hg, fstB]
  ) Tryz.f70 Tryz.results70 gl70)
theorem p28_c (b b' : Bool) (l : List Act) (g : Act → Bool) (f : Nat) (cs : List PV) (hl : l.length ≤ 1048576) (hs : sgOf f = ⟨[], .d, false⟩) (hf : ∀ v ∈ l, phi C0 (lim C0) f [.ag [(.pv false (.sc (.int .i64 v.act))), .pv false (.sl (nums .u8 v.addr)), (.pv false (.sc (.int .i64 v.item))), (.pv false (.sc (.int .i64 v.val.kind))), (.pv false (.sc (.int .i64 v.val.n))), .pv false (.sl (nums .u8 v.val.s)), .pv false (.sl (rws byP v.val.k)), .pv false (.sl (rws vP v.val.l)), .pv false (.sl (rws byP v.deps))], .pv b' (.pt cs)] [] = some ((.pv false (.sc (.bool (g v)))), [])) : phi C0 (lim C0) 28 [.pv b (.sl (rws aP l)), .pv b' (.cl f [.pt cs])] [] = some ((.pv false (.sc (.bool (anyB g l)))), []) := call0 Tryz.func28 (by kernel_rfl) ((show ∀ fn : Func, fn.results = #[.tmp 4] → lim C0 28 fn [.c (code Tryz.f28)] ⟨_, _⟩ = _ from fun fn hr => by
  have q := p70_c b b' l g f cs hl hs hf
  simp [code, Tryz.f28, hr, q, fstB_any]
  ) Tryz.f28 Tryz.results28)
/-- An act and all that it needs. -/
def onlyL (x : List Int) : List Act → List Act
  | [] => []
  | a :: l => if (anyB (needB a.addr) (onlyL x l) || decide (a.addr = x)) = true then a :: onlyL x l else onlyL x l
@[simp] theorem onlyL_nil (x : List Int) : onlyL x [] = [] := rfl
theorem pInsT (l : List Act) (a : Act) (hl : l.length ≤ 1048576) (hn : l ≠ []) : phi C0 (lim C0) 33 [.nr 0 [] 0 l.length, (.pv false (.sc (.int .i64 0))), .nr 1 [] 0 1] [(0, .tree .io (rws aP l)), (1, .tree .io [[.sc (.int .i64 a.act), .sl (nums .u8 a.addr), .sc (.int .i64 a.item), .sc (.int .i64 a.val.kind), .sc (.int .i64 a.val.n), .sl (nums .u8 a.val.s), .sl (rws byP a.val.k), .sl (rws vP a.val.l), .sl (rws byP a.deps)]])] = some (.nr 16 [] 0 (l.length + 1), [(0, .dead), (1, .dead), (16, .tree .io (rws aP (a :: l)))]) := by
  have g3 : (∀ (r : List PV), r ∈ rws aP l → r.length = 9) = True := eq_true (rws_all _ _ fun _ => by simp)
  have g4 : rws aP l ≠ [] := by cases l <;> simp_all [rws]
  have g5 : rws aP (a :: l) = [.sc (.int .i64 a.act), .sl (nums .u8 a.addr), .sc (.int .i64 a.item), .sc (.int .i64 a.val.kind), .sc (.int .i64 a.val.n), .sl (nums .u8 a.val.s), .sl (rws byP a.val.k), .sl (rws vP a.val.l), .sl (rws byP a.deps)] :: rws aP l := by rw [← aP_eq]; rfl
  exact phi_ext (C := C0) (by simp [C0, ext0, extIT, hl, g3, g4, g5])
theorem pInsN (a : Act) : phi C0 (lim C0) 33 [.nl, (.pv false (.sc (.int .i64 0))), .nr 0 [] 0 1] [(0, .tree .io [[.sc (.int .i64 a.act), .sl (nums .u8 a.addr), .sc (.int .i64 a.item), .sc (.int .i64 a.val.kind), .sc (.int .i64 a.val.n), .sl (nums .u8 a.val.s), .sl (rws byP a.val.k), .sl (rws vP a.val.l), .sl (rws byP a.deps)]])] = some (.nr 16 [] 0 1, [(0, .dead), (16, .tree .io [[.sc (.int .i64 a.act), .sl (nums .u8 a.addr), .sc (.int .i64 a.item), .sc (.int .i64 a.val.kind), .sc (.int .i64 a.val.n), .sl (nums .u8 a.val.s), .sl (rws byP a.val.k), .sl (rws vP a.val.l), .sl (rws byP a.deps)]])]) := by
  exact phi_ext (C := C0) (by simp [C0, ext0, extIT])
theorem onlyL_len (x : List Int) : ∀ l : List Act, (onlyL x l).length ≤ l.length
  | [] => Nat.le_refl _
  | a :: l => by have := onlyL_len x l; simp only [onlyL]; split <;> simp <;> omega
theorem onlyL_mem {x : List Int} {a : Act} : ∀ {l : List Act}, a ∈ onlyL x l → a ∈ l
  | [], h => by simp [onlyL] at h
  | b :: l, h => by
    simp only [onlyL] at h
    split at h
    · rcases List.mem_cons.1 h with h | h
      · simp [h]
      · exact List.mem_cons_of_mem _ (onlyL_mem h)
    · exact List.mem_cons_of_mem _ (onlyL_mem h)
theorem onlyL_at {x : List Int} {l : List Act} {i : Nat} (h : i < l.length) : onlyL x (l.drop i) = if (anyB (needB l[i].addr) (onlyL x (l.drop (i + 1))) || decide (l[i].addr = x)) = true then l[i] :: onlyL x (l.drop (i + 1)) else onlyL x (l.drop (i + 1)) := by rw [drop_at h]; rfl
theorem p9 (b b2 : Bool) (l : List Act) (same : Int) (x : List Int) (hl : l.length ≤ 1048576) (ha : ∀ a ∈ l, ALen a ∧ AOk a) (hx : byteOk x = true) : phi C0 (lim C0) 9 [.ag [.pv b (.sl (rws aP l)), (.pv false (.sc (.int .i64 same)))], .pv b2 (.sl (nums .u8 x))] [] = some (if planB l same = true then (.tu [.ag [.nr 16 [] 0 (onlyL x l).length, (.pv false (.sc (.int .i64 same)))], (.pv false (.sc (.bool true)))], [(16, .tree .own (rws aP (onlyL x l)))]) else (.tu [.ag [.nr 16 [] 0 0, (.pv false (.sc (.int .i64 0)))], (.pv false (.sc (.bool false)))], [(16, .tree .own [])])) := call0 Tryz.func9 (by kernel_rfl) ((show ∀ fn : Func, fn.results = #[.cell 4 29, .tmp 5] → globs fn = [0, 2, 12, 4, 7, 22, 8, 6, 1, 9, 40, 5] → lim C0 9 fn [.c (code Tryz.f9)] ⟨_, _⟩ = _ from fun fn hr hg => by
  have hp10 := plan9_10
  simp [opsOf, code, Tryz.f9] at hp10
  have q1 := fun b => p27 b l same hl fun a h => (ha a h).2
  simp [code, Tryz.f9, hr, hg, hp10, q1]
  (first | refine ifL_cases (fun h => ?_) (fun h => ?_) | refine gI_cases' (fun h => ?_) (fun h => ?_) | refine gI_cases (fun h => ?_) (fun h => ?_) | refine dI_cases' (fun h => ?_) (fun h => ?_) | refine dI_cases (fun h => ?_) (fun h => ?_)) <;> first | replace h := of_decide_eq_true h | replace h := of_decide_eq_false h | skip
  rotate_left
  · simp [hg, h, hr]
  simp [hg, h, hr, hg, hp10]
  try simp (disch := omega) only [wrap_id']
  refine (loop_to (s0 := ?s3) (fun k => k) (fun k => [(7, (.pv false (.sc (.int .i64 ((k : Nat) - 1)))))]) (fun k => [(16, .box [.pv b (.sl (rws aP l)), (.pv false (.sc (.int .i64 same)))]), (18, .box [.nl, (.pv false (.sc (.int .i64 0)))]), (20, .box [tnT 22 (onlyL x (l.drop k)), (.pv false (.sc (.int .i64 same)))])] ++ tnH 22 aP (onlyL x (l.drop k))) (fun k K => K [(7, (.pv false (.sc (.int .i64 (-1)))))] ([(16, .box [.pv b (.sl (rws aP l)), (.pv false (.sc (.int .i64 same)))]), (18, .box [.nl, (.pv false (.sc (.int .i64 0)))]), (20, .box [tnT 22 (onlyL x l), (.pv false (.sc (.int .i64 same)))])] ++ tnH 22 aP (onlyL x l))) (fun k => k ≤ l.length) l.length ?hc3 ?h03 ?hs3 ?step3).trans ?r3
  case hc3 => simp; rfl
  case h03 => first | (simp; done) | (simp [*]; done) | exact ⟨by simp, ⟨rfl⟩⟩ | grind | (simp; omega)
  case hs3 => first | (simp; done) | (simp [*]; done)
  case r3 => cases hk : onlyL x l <;> simp [hg, hk, rws, hr, hg, hp10]
  intro K k hk ih
  rcases k with _ | k
  · simp [hg]
    cases onlyL x l <;> simp [hg]
  have hlt : k < l.length := by omega
  have e0 : ((k + 1 : Nat) : Int) - 1 = (k : Int) := by omega
  simp only [e0]
  have hat := onlyL_at (x := x) hlt
  have hb := (ha _ (List.getElem_mem hlt)).2
  have hc := (ha _ (List.getElem_mem hlt)).1
  have hmo : ∀ a ∈ onlyL x (l.drop (k + 1)), ALen a ∧ AOk a := fun a h => ha a (List.mem_of_mem_drop (onlyL_mem h))
  have hlo : (onlyL x (l.drop (k + 1))).length ≤ 1048576 := by have := onlyL_len x (l.drop (k + 1)); simp at this; omega
  generalize hout : onlyL x (l.drop (k + 1)) = out at hat hmo hlo
  have p1 := fun b b' => p28_c b b' out (needB l[k].addr) 29 [.sc (.int .i64 (l[k]).act), .sl (nums .u8 (l[k]).addr), .sc (.int .i64 (l[k]).item), .sc (.int .i64 (l[k]).val.kind), .sc (.int .i64 (l[k]).val.n), .sl (nums .u8 (l[k]).val.s), .sl (rws byP (l[k]).val.k), .sl (rws vP (l[k]).val.l), .sl (rws byP (l[k]).deps)] hlo rfl fun o ho => p29 b' o l[k] (hmo o ho).1.dl.1 (hmo o ho).2.db hb.addrB
  have p2 := fun b b' => p32 b b' l[k].addr x hb.addrB hx
  have p3 := fun b => p34 b l[k].addr hb.addr
  have p4 := pCopyV l[k].val hc.vl
  have p5 := fun b => p36 b l[k].deps hb.dl
  generalize hadr : decide (l[k].addr = x) = ad at p2 hat
  rcases out with _ | ⟨a0, out⟩
  · replace p1 : ∀ b b' : Bool, phi C0 (lim C0) 28 [.pv b (.sl []), .pv b' (.cl 29 [.pt [.sc (.int .i64 (l[k]).act), .sl (nums .u8 (l[k]).addr), .sc (.int .i64 (l[k]).item), .sc (.int .i64 (l[k]).val.kind), .sc (.int .i64 (l[k]).val.n), .sl (nums .u8 (l[k]).val.s), .sl (rws byP (l[k]).val.k), .sl (rws vP (l[k]).val.l), .sl (rws byP (l[k]).deps)]])] [] = some ((.pv false (.sc (.bool false))), []) := p1
    have p6 := pInsN l[k]
    simp [hg, anyB] at hat
    cases ad with
    | false =>
      simp at hat
      simp [hg, hlt, hout, p1, p2, hr, hg, hp10]
      try simp (disch := omega) only [wrap_id']
      refine (ih.out k _ ?_ ?_ ?_).trans ?_
      · omega
      · omega
      · simp [hg, hat]
      · rfl
    | true =>
      simp at hat
      simp [hg, hlt, hout, p1, p2, p3, p4, p5, p6, hr, hg, hp10]
      try simp (disch := omega) only [wrap_id']
      refine (ih.out k _ ?_ ?_ ?_).trans ?_
      · omega
      · omega
      · simp [hg, hat, rws]
      · rfl
  · rw [show rws aP (a0 :: out) = [.sc (.int .i64 a0.act), .sl (nums .u8 a0.addr), .sc (.int .i64 a0.item), .sc (.int .i64 a0.val.kind), .sc (.int .i64 a0.val.n), .sl (nums .u8 a0.val.s), .sl (rws byP a0.val.k), .sl (rws vP a0.val.l), .sl (rws byP a0.deps)] :: rws aP out by rw [← aP_eq]; rfl] at p1
    generalize hneed : anyB (needB l[k].addr) (a0 :: out) = need at p1 hat
    have p6 := pInsT (a0 :: out) l[k] hlo (by simp [hg])
    rw [show rws aP (a0 :: out) = [.sc (.int .i64 a0.act), .sl (nums .u8 a0.addr), .sc (.int .i64 a0.item), .sc (.int .i64 a0.val.kind), .sc (.int .i64 a0.val.n), .sl (nums .u8 a0.val.s), .sl (rws byP a0.val.k), .sl (rws vP a0.val.l), .sl (rws byP a0.deps)] :: rws aP out by rw [← aP_eq]; rfl, show rws aP (l[k] :: a0 :: out) = [.sc (.int .i64 (l[k]).act), .sl (nums .u8 (l[k]).addr), .sc (.int .i64 (l[k]).item), .sc (.int .i64 (l[k]).val.kind), .sc (.int .i64 (l[k]).val.n), .sl (nums .u8 (l[k]).val.s), .sl (rws byP (l[k]).val.k), .sl (rws vP (l[k]).val.l), .sl (rws byP (l[k]).deps)] :: [.sc (.int .i64 a0.act), .sl (nums .u8 a0.addr), .sc (.int .i64 a0.item), .sc (.int .i64 a0.val.kind), .sc (.int .i64 a0.val.n), .sl (nums .u8 a0.val.s), .sl (rws byP a0.val.k), .sl (rws vP a0.val.l), .sl (rws byP a0.deps)] :: rws aP out by rw [← aP_eq, ← aP_eq]; rfl] at p6
    simp only [List.length_cons] at p6
    cases need with
    | true =>
      simp at hat
      simp [hg, hlt, hout, p1, p2, p3, p4, p5, p6, hr, hg, hp10]
      try simp (disch := omega) only [wrap_id']
      refine (ih.out k _ ?_ ?_ ?_).trans ?_
      · omega
      · omega
      · simp [hg, hat, rws]
      · rfl
    | false =>
      cases ad with
      | true =>
        simp at hat
        simp [hg, hlt, hout, p1, p2, p3, p4, p5, p6, hr, hg, hp10]
        try simp (disch := omega) only [wrap_id']
        refine (ih.out k _ ?_ ?_ ?_).trans ?_
        · omega
        · omega
        · simp [hg, hat, rws]
        · rfl
      | false =>
        simp at hat
        simp [hg, hlt, hout, p1, p2, hr, hg, hp10]
        try simp (disch := omega) only [wrap_id']
        refine (ih.out k _ ?_ ?_ ?_).trans ?_
        · omega
        · omega
        · simp [hg, hat, rws]
        · rfl
  ) Tryz.f9 Tryz.results9 gl9)
end Go.Proofs.YtgbfmdihmnpcdaaGreatDoor
