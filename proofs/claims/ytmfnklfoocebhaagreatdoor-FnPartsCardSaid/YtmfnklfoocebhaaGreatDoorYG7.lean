/- The order of a graph, by the program. -/
import Derived.Test.YtmfnklfoocebhaaGreatDoorYG6
namespace Go.Proofs.YtmfnklfoocebhaaGreatDoor
open Go Go.Pm Go.Proofs
set_option linter.unusedVariables false
set_option linter.unusedSimpArgs false
set_option maxRecDepth 100000
set_option maxHeartbeats 4000000
theorem gOk_n {n : Int} {l : List Ed} (h : gOk n l = true) : ∃ m : Nat, n = m ∧ m ≤ 20 ∧ l.length ≤ 400 ∧ gChk (m : Int) none l = true := by
  simp only [gOk, Bool.and_eq_true, decide_eq_true_eq] at h
  obtain ⟨⟨⟨h1, h2⟩, h3⟩, h4⟩ := h
  obtain ⟨m, rfl⟩ := Int.eq_ofNat_of_zero_le h1
  exact ⟨m, rfl, by omega, h3, h4⟩
theorem dn_nil20 : [PV.sc (.bool false), .sc (.bool false), .sc (.bool false), .sc (.bool false), .sc (.bool false), .sc (.bool false), .sc (.bool false), .sc (.bool false), .sc (.bool false), .sc (.bool false), .sc (.bool false), .sc (.bool false), .sc (.bool false), .sc (.bool false), .sc (.bool false), .sc (.bool false), .sc (.bool false), .sc (.bool false), .sc (.bool false), .sc (.bool false)] = dnP 20 [] := by rw [dnP_nil]; rfl
def junk (o : Nat) : List Int → TV
  | [] => .ref o 0 0
  | _ :: _ => .ud
@[simp] theorem junk_nil (o : Nat) : junk o [] = .ref o 0 0 := rfl
@[simp] theorem junk_cons (o : Nat) (a : Int) (l : List Int) : junk o (a :: l) = .ud := rfl
attribute [simp] left_nil
theorem ordL_none {n : Nat} {l : List Ed} {out : List Int} (h : ¬ nextU out l n n 0 < n) : ordL n l out = out := by rw [ordL_step, if_neg h]
theorem ordL_some {n : Nat} {l : List Ed} {out : List Int} {k : Nat} (h : nextU out l n n 0 = k) (h' : k < n) : ordL n l out = ordL n l (out ++ [(k : Int)]) := by rw [ordL_step, h, if_pos h']
theorem ordL_full {n : Nat} {l : List Ed} {out : List Int} (h : left out n = 0) : ordL n l out = out := by
  refine ordL_none fun hlt => ?_
  rcases nextU_eq (out := out) (l := l) (n := n) n 0 (by omega) with ⟨h5, h6⟩ | ⟨h5, h6, h7, h8⟩
  · omega
  · have := left_pos (free_not h7) n h6; omega
theorem p41 (b : Bool) (v : Int) (out : List Int) (e : Ed) (h0 : 0 ≤ e.1) (h1 : e.1 < 20) : phi C0 (lim C0) 41 [edTV e, .pv true (.pt [.sc (.int .i64 v)]), .pv true (.pt (dnP 20 out))] [] = some ((.pv false (.sc (.bool (decide (e.2 = v) && !hasI out e.1)))), []) := call0 Tryz.func41 (by kernel_rfl) ((show ∀ fn : Func, fn.results = #[.tmp 4] → lim C0 41 fn [.c (code Tryz.f41)] ⟨_, _⟩ = _ from fun fn hr => by
  have hb2 : max e.1 0 = e.1 := by omega
  have hb3 : e.1.toNat < 20 := by omega
  simp [code, Tryz.f41, hr]
  repeat' ((first | refine ifL_cases (fun h => ?_) (fun h => ?_) | refine gI_cases' (fun h => ?_) (fun h => ?_) | refine gI_cases (fun h => ?_) (fun h => ?_) | refine dI_cases' (fun h => ?_) (fun h => ?_) | refine dI_cases (fun h => ?_) (fun h => ?_)) <;> first | replace h := of_decide_eq_true h | replace h := of_decide_eq_false h | skip
           all_goals try simp [*])
  ) Tryz.f41 Tryz.results41)
def idxBE (out : List Int) (v : Int) : List Ed → Nat → Int
  | [], _ => -1
  | e :: l, i => bif decide (e.2 = v) && !hasI out e.1 then i else idxBE out v l (i + 1)
theorem idxB_ge (out : List Int) (v : Int) : ∀ (l : List Ed) (i : Nat), decide (0 ≤ idxBE out v l i) = blocked out v l
  | [], i => by simp [idxBE, blocked]
  | e :: l, i => by
    have ih := idxB_ge out v l (i + 1)
    cases h : (decide (e.2 = v) && !hasI out e.1) <;> simp [idxBE, blocked, h, ih]
theorem p82 (b b' : Bool) (l : List Ed) (v : Int) (out : List Int) (hl : l.length ≤ 1048576) (he : ∀ e ∈ l, 0 ≤ e.1 ∧ e.1 < 20) : phi C0 (lim C0) 82 [.pv b (.sl (eds l)), .pv true (.cl 41 [.pt [.sc (.int .i64 v)], .pt (dnP 20 out)])] [] = some ((.pv false (.sc (.int .i64 (idxBE out v l 0)))), []) := call0 Tryz.func82 (by kernel_rfl) ((show ∀ fn : Func, fn.results = #[.tmp 4] → globs fn = [0, 8, 7, 9, 5, 1, 16, 4] → lim C0 82 fn [.c (code Tryz.f82)] ⟨_, _⟩ = _ from fun fn hr hg => by
  simp [code, Tryz.f82, hr, hg]
  refine (loop_go (s0 := ?s1) (fun i => l.length - i) (fun i => [(8, (.pv false (.sc (.int .i64 ((i : Nat))))))]) (fun i => []) (fun i => some ((.pv false (.sc (.int .i64 (idxBE out v (l.drop i) i)))), [])) (fun i => i ≤ l.length) 0 ?hc1 ?h01 ?hs1 ?step1).trans ?r1
  case hc1 => simp; rfl
  case h01 => first | (simp; done) | (simp [*]; done) | exact ⟨by simp, ⟨rfl⟩⟩ | grind | (simp; omega)
  case hs1 => first | (simp; done) | (simp [*]; done)
  case r1 => simp [hg]
  intro i hi ih
  simp [hg]
  (first | refine ifL_cases (fun h => ?_) (fun h => ?_) | refine gI_cases' (fun h => ?_) (fun h => ?_) | refine gI_cases (fun h => ?_) (fun h => ?_) | refine dI_cases' (fun h => ?_) (fun h => ?_) | refine dI_cases (fun h => ?_) (fun h => ?_)) <;> first | replace h := of_decide_eq_true h | replace h := of_decide_eq_false h | skip
  · have p1 := p41 true v out l[i] (he _ (List.getElem_mem h)).1 (he _ (List.getElem_mem h)).2
    simp only [edTV] at p1
    simp [hg, *]
    repeat' ((first | refine ifL_cases (fun h => ?_) (fun h => ?_) | refine gI_cases' (fun h => ?_) (fun h => ?_) | refine gI_cases (fun h => ?_) (fun h => ?_) | refine dI_cases' (fun h => ?_) (fun h => ?_) | refine dI_cases (fun h => ?_) (fun h => ?_)) <;> first | replace h := of_decide_eq_true h | replace h := of_decide_eq_false h | skip
             all_goals try simp [*])
    all_goals try simp (disch := omega) only [wrap_id']
    all_goals first | (refine (ih.out (i + 1) _ (by first | omega | grind) (by first | omega | (refine And.intro ?_ ?_; focus omega; (simp [*]; done)) | grind) (by first | (simp [*]; done) | (simp [*]; omega))).trans ?_; try simp [*]) | skip
    all_goals clear ih p1
    all_goals grind [drop_at, drop_end, idxBE]
  · have e : i = l.length := by omega
    subst e
    simp [hg, idxBE, hr]
  ) Tryz.f82 Tryz.results82 gl82)
theorem p40 (b b' : Bool) (l : List Ed) (v : Int) (out : List Int) (hl : l.length ≤ 1048576) (he : ∀ e ∈ l, 0 ≤ e.1 ∧ e.1 < 20) : phi C0 (lim C0) 40 [.pv b (.sl (eds l)), .pv true (.cl 41 [.pt [.sc (.int .i64 v)], .pt (dnP 20 out)])] [] = some ((.pv false (.sc (.bool (blocked out v l)))), []) := call0 Tryz.func40 (by kernel_rfl) ((show ∀ fn : Func, fn.results = #[.tmp 4] → lim C0 40 fn [.c (code Tryz.f40)] ⟨_, _⟩ = _ from fun fn hr => by
  have p1 := fun b => p82 b b l v out hl he
  simp [code, Tryz.f40, hr, p1, idxB_ge]
  ) Tryz.f40 Tryz.results40)
theorem p15 (b : Bool) (n : Nat) (l : List Ed) (hl : l.length ≤ 1048576) (he : gOk n l = true) : phi C0 (lim C0) 15 [grTV b n l] [] = some (if n ≤ (ordL n l []).length then (.tu [.ref 16 0 (ordL n l []).length, (.pv false (.sc (.bool true)))], [(16, .row .own 3 1 (nums .i64 (ordL n l [])))]) else (.tu [.ref 16 0 0, (.pv false (.sc (.bool false)))], [(16, .row .own 3 1 [])])) := call0 Tryz.func15 (by kernel_rfl) ((show ∀ fn : Func, fn.results = #[.tmp 2, .tmp 3] → globs fn = [0, 1, 9, 5, 16, 6, 4, 31, 37, 2, 3] → lim C0 15 fn [.c (code Tryz.f15)] ⟨_, _⟩ = _ from fun fn hr hg => by
  have p1 := p10
  simp only [grTV] at p1
  obtain ⟨n', e, hn, hle, hch⟩ := gOk_n he
  obtain rfl : n = n' := by omega
  have hee : ∀ e ∈ l, 0 ≤ e.1 ∧ e.1 < 20 := fun e h => by have := gChk_in hch e h; grind [edIn]
  have p2 := fun b v out => p40 b b l v out hl hee
  simp [code, Tryz.f15, hr, hg, p1, he, hl, dn_nil20]
  refine (loop_go (s0 := ?s2) (fun out => left out n) (fun out => [(5, .ref 20 0 out.length)]) (fun out => [(16, .box [(.pv false (.sc (.int .i64 ((n : Nat))))), .pv b (.sl (eds l))]), (18, .arr (dnP 20 out)), (20, .row .own 3 1 (nums .i64 out))]) (fun out => some (if n ≤ (ordL n l out).length then (.tu [.ref 16 0 (ordL n l out).length, (.pv false (.sc (.bool true)))], [(16, .row .own 3 1 (nums .i64 (ordL n l out)))]) else (.tu [.ref 16 0 0, (.pv false (.sc (.bool false)))], [(16, .row .own 3 1 [])]))) (fun out => out.length + left out n = n) [] ?hc2 ?h02 ?hs2 ?step2).trans ?r2
  case hc2 => simp; rfl
  case h02 => first | (simp; done) | (simp [*]; done) | exact ⟨by simp, ⟨rfl⟩⟩ | grind | (simp; omega)
  case hs2 => first | (simp; done) | (simp [*]; done)
  case r2 => simp [hg]
  intro out ho ih
  rcases out with _ | ⟨a, out⟩
  all_goals simp [hg]
  · (first | refine ifL_cases (fun h => ?_) (fun h => ?_) | refine gI_cases' (fun h => ?_) (fun h => ?_) | refine gI_cases (fun h => ?_) (fun h => ?_) | refine dI_cases' (fun h => ?_) (fun h => ?_) | refine dI_cases (fun h => ?_) (fun h => ?_)) <;> first | replace h := of_decide_eq_true h | replace h := of_decide_eq_false h | skip
    · simp [hg, h]
      refine (loop_to (s0 := ?s3) (fun v => n - v) (fun v => []) (fun v => [(16, .box [(.pv false (.sc (.int .i64 ((n : Nat))))), .pv b (.sl (eds l))]), (18, .arr (dnP 20 [])), (20, .row .own 3 1 []), (22, .box [(.pv false (.sc (.int .i64 ((v : Nat)))))])]) (fun v K => K [] ([(16, .box [(.pv false (.sc (.int .i64 ((n : Nat))))), .pv b (.sl (eds l))]), (18, .arr (dnP 20 [])), (20, .row .own 3 1 []), (22, .box [(.pv false (.sc (.int .i64 ((nextU [] l n (n - v) v : Nat)))))])])) (fun v => v ≤ n) 0 ?hc3 ?h03 ?hs3 ?step3).trans ?r3
      case hc3 => simp; rfl
      case h03 => first | (simp; done) | (simp [*]; done) | exact ⟨by simp, ⟨rfl⟩⟩ | grind | (simp; omega)
      case hs3 => first | (simp; done) | (simp [*]; done)
      case r3 =>
        simp [hg]
        have hx := nextU_eq (out := []) (l := l) (n := n) n 0 (by omega)
        generalize hk : nextU [] l n n 0 = k at hx
        rcases hx with ⟨hx, _⟩ | ⟨_, hx, hf, _⟩
        · have ho := ordL_none (n := n) (l := l) (out := []) (by omega)
          have hl : ¬ n ≤ 0 := by omega
          subst hx
          simp [hg, ho, hl, hr]
        · have ho2 := ordL_some hk hx
          have hlt := left_lt (free_not hf) n hx
          have hd := dnP_spl 20 [] k (by omega)
          have c0 : ¬ k = n := by omega
          have c1 : k < 20 := by omega
          have c4 : (k : Int) < 20 := by omega
          have c2 : (0 + 1) * 8 ≤ Pm.roomBytes := by simp at ho; unfold Pm.roomBytes; omega
          have c3 : 0 + 1 ≤ 9223372036854775807 := by simp at ho; omega
          simp at hd ho c2 c3 hlt
          simp [hg, c0, c1, c2, c3, c4, hd]
          rw [ho2]
          refine (ih.out ([(k : Int)]) _ ?_ ?_ ?_).trans ?_
          · first | omega | (simp [hg]; omega)
          · first | omega | (simp [hg]; omega)
          · simp [hg]
          · first | rfl | simp [hg]
      clear ih
      intro k v hv ih
      simp [hg]
      (first | refine ifL_cases (fun h => ?_) (fun h => ?_) | refine gI_cases' (fun h => ?_) (fun h => ?_) | refine gI_cases (fun h => ?_) (fun h => ?_) | refine dI_cases' (fun h => ?_) (fun h => ?_) | refine dI_cases (fun h => ?_) (fun h => ?_)) <;> first | replace h := of_decide_eq_true h | replace h := of_decide_eq_false h | skip
      · have c1 : v < 20 := by omega
        have c4 : (v : Int) < 20 := by omega
        have hw : IntKind.i64.wrap ((v : Int) + 1) = v + 1 := wrap_id' (by omega)
        have hn : nextU [] l n (n - v) v = bif freeV [] l v then v else nextU [] l n (n - (v + 1)) (v + 1) := by
          rw [show n - v = (n - (v + 1)) + 1 by omega]; rfl
        simp [hg, h, c1, c4]
        repeat' ((first | refine ifL_cases (fun h => ?_) (fun h => ?_) | refine gI_cases' (fun h => ?_) (fun h => ?_) | refine gI_cases (fun h => ?_) (fun h => ?_) | refine dI_cases' (fun h => ?_) (fun h => ?_) | refine dI_cases (fun h => ?_) (fun h => ?_)) <;> first | replace h := of_decide_eq_true h | replace h := of_decide_eq_false h | skip
                 all_goals try simp [p2, hw, *])
        all_goals first | (refine (ih.out (v + 1) _ (by first | omega | grind) (by first | omega | (refine And.intro ?_ ?_; focus omega; (simp [*]; done)) | grind) (by first | (simp [*]; done) | (simp [*]; omega))).trans ?_; try simp [*]) | skip
        all_goals clear ih p2
        all_goals try grind [freeV]
      · have e : v = n := by omega
        subst e
        simp [hg, nextU]
    · have h0 : left [] n = 0 := by first | (simp at h ⊢; omega) | (simp at ho h ⊢; omega)
      have hf := ordL_full (l := l) h0
      have hl : n ≤ 0 := by omega
      simp [hg, h, hf, hl, hr]
  · (first | refine ifL_cases (fun h => ?_) (fun h => ?_) | refine gI_cases' (fun h => ?_) (fun h => ?_) | refine gI_cases (fun h => ?_) (fun h => ?_) | refine dI_cases' (fun h => ?_) (fun h => ?_) | refine dI_cases (fun h => ?_) (fun h => ?_)) <;> first | replace h := of_decide_eq_true h | replace h := of_decide_eq_false h | skip
    · simp [hg, h]
      refine (loop_to (s0 := ?s4) (fun v => n - v) (fun v => []) (fun v => [(16, .box [(.pv false (.sc (.int .i64 ((n : Nat))))), .pv b (.sl (eds l))]), (18, .arr (dnP 20 (a :: out))), (20, .row .own 3 1 (nums .i64 (a :: out))), (22, .box [(.pv false (.sc (.int .i64 ((v : Nat)))))])]) (fun v K => K [] ([(16, .box [(.pv false (.sc (.int .i64 ((n : Nat))))), .pv b (.sl (eds l))]), (18, .arr (dnP 20 (a :: out))), (20, .row .own 3 1 (nums .i64 (a :: out))), (22, .box [(.pv false (.sc (.int .i64 ((nextU (a :: out) l n (n - v) v : Nat)))))])])) (fun v => v ≤ n) 0 ?hc4 ?h04 ?hs4 ?step4).trans ?r4
      case hc4 => simp; rfl
      case h04 => first | (simp; done) | (simp [*]; done) | exact ⟨by simp, ⟨rfl⟩⟩ | grind | (simp; omega)
      case hs4 => first | (simp; done) | (simp [*]; done)
      case r4 =>
        simp [hg]
        have hx := nextU_eq (out := (a :: out)) (l := l) (n := n) n 0 (by omega)
        generalize hk : nextU (a :: out) l n n 0 = k at hx
        rcases hx with ⟨hx, _⟩ | ⟨_, hx, hf, _⟩
        · have ho := ordL_none (n := n) (l := l) (out := (a :: out)) (by omega)
          have hl : ¬ n ≤ out.length + 1 := by omega
          subst hx
          simp [hg, ho, hl, hr]
        · have ho2 := ordL_some hk hx
          have hlt := left_lt (free_not hf) n hx
          have hd := dnP_spl 20 (a :: out) k (by omega)
          have c0 : ¬ k = n := by omega
          have c1 : k < 20 := by omega
          have c4 : (k : Int) < 20 := by omega
          have c2 : (out.length + 1 + 1) * 8 ≤ Pm.roomBytes := by simp at ho; unfold Pm.roomBytes; omega
          have c3 : out.length + 1 + 1 ≤ 9223372036854775807 := by simp at ho; omega
          simp at hd ho c2 c3 hlt
          simp [hg, c0, c1, c2, c3, c4, hd]
          rw [ho2]
          refine (ih.out (a :: (out ++ [(k : Int)])) _ ?_ ?_ ?_).trans ?_
          · first | omega | (simp [hg]; omega)
          · first | omega | (simp [hg]; omega)
          · simp [hg]
          · first | rfl | simp [hg]
      clear ih
      intro k v hv ih
      simp [hg]
      (first | refine ifL_cases (fun h => ?_) (fun h => ?_) | refine gI_cases' (fun h => ?_) (fun h => ?_) | refine gI_cases (fun h => ?_) (fun h => ?_) | refine dI_cases' (fun h => ?_) (fun h => ?_) | refine dI_cases (fun h => ?_) (fun h => ?_)) <;> first | replace h := of_decide_eq_true h | replace h := of_decide_eq_false h | skip
      · have c1 : v < 20 := by omega
        have c4 : (v : Int) < 20 := by omega
        have hw : IntKind.i64.wrap ((v : Int) + 1) = v + 1 := wrap_id' (by omega)
        have hn : nextU (a :: out) l n (n - v) v = bif freeV (a :: out) l v then v else nextU (a :: out) l n (n - (v + 1)) (v + 1) := by
          rw [show n - v = (n - (v + 1)) + 1 by omega]; rfl
        simp [hg, h, c1, c4]
        repeat' ((first | refine ifL_cases (fun h => ?_) (fun h => ?_) | refine gI_cases' (fun h => ?_) (fun h => ?_) | refine gI_cases (fun h => ?_) (fun h => ?_) | refine dI_cases' (fun h => ?_) (fun h => ?_) | refine dI_cases (fun h => ?_) (fun h => ?_)) <;> first | replace h := of_decide_eq_true h | replace h := of_decide_eq_false h | skip
                 all_goals try simp [p2, hw, *])
        all_goals first | (refine (ih.out (v + 1) _ (by first | omega | grind) (by first | omega | (refine And.intro ?_ ?_; focus omega; (simp [*]; done)) | grind) (by first | (simp [*]; done) | (simp [*]; omega))).trans ?_; try simp [*]) | skip
        all_goals clear ih p2
        all_goals try grind [freeV]
      · have e : v = n := by omega
        subst e
        simp [hg, nextU]
    · have h0 : left (a :: out) n = 0 := by first | (simp at h ⊢; omega) | (simp at ho h ⊢; omega)
      have hf := ordL_full (l := l) h0
      have hl : n ≤ out.length + 1 := by omega
      simp [hg, h, hf, hl, hr]
  ) Tryz.f15 Tryz.results15 gl15)
end Go.Proofs.YtmfnklfoocebhaaGreatDoor
