/- What can be come to, by the program. -/
import Derived.Test.YtopoaemlbnkhgaaG12
namespace Go.Proofs.Ytopoaemlbnkhgaa
open Go Go.Pm Go.Proofs
set_option linter.unusedVariables false
set_option linter.unusedSimpArgs false
def jk (o : Nat) (fr : Bool) : TV := bif fr then .ref o 0 1 else .ud
@[simp] theorem jk_t (o : Nat) : jk o true = .ref o 0 1 := rfl
@[simp] theorem jk_f (o : Nat) : jk o false = .ud := rfl
def jk2 (ch : Bool) (a : TV) : TV := bif ch then .ud else a
@[simp] theorem jk2_t (a : TV) : jk2 true a = .ud := rfl
@[simp] theorem jk2_f (a : TV) : jk2 false a = a := rfl
/-- The way's state: was nothing added yet; what was looked at of the row, what is left of it, what is marked. -/
structure Wy where
  fr : Bool
  ch : Bool
  pre : List Int
  t : List Int
  s : List Int
def expQ (v : Int) : List Ed → Wy → Wy
  | [], x => x
  | e :: l, x => expQ v l (bif decide (e.1 = v) && !hasI x.s e.2 then ⟨false, true, [], x.t ++ [e.2], x.s ++ [e.2]⟩ else x)
theorem expQ_at {v : Int} {l : List Ed} {i : Nat} {x : Wy} (h : i < l.length) : expQ v (l.drop i) x = expQ v (l.drop (i + 1)) (bif decide (l[i].1 = v) && !hasI x.s l[i].2 then ⟨false, true, [], x.t ++ [l[i].2], x.s ++ [l[i].2]⟩ else x) := by rw [drop_at h]; rfl
theorem expQ_eq (v : Int) : ∀ (l : List Ed) (x : Wy), ((expQ v l x).t, (expQ v l x).s) = expd v l (x.t, x.s)
  | [], x => rfl
  | e :: l, x => by
    rw [expQ, expQ_eq v l, expd]
    cases (decide (e.1 = v) && !hasI x.s e.2) <;> rfl
theorem expQ_fr (v : Int) : ∀ (l : List Ed) (x : Wy), (expQ v l x).fr = true → expQ v l x = x
  | [], x, _ => rfl
  | e :: l, x, h => by
    rw [expQ] at h ⊢
    have ih := expQ_fr v l _ h
    cases hc : (decide (e.1 = v) && !hasI x.s e.2)
    · rw [hc] at ih; exact ih
    · rw [hc] at ih h
      rw [ih] at h
      cases h
theorem left_at {s : List Int} {n : Nat} {x : Int} (hx : 0 ≤ x ∧ x < n) (h : hasI s x = false) : left (s ++ [x]) n + 1 = left s n := by
  obtain ⟨k, rfl⟩ := Int.eq_ofNat_of_zero_le hx.1
  exact left_lt h n (by omega)
theorem expQ_len (v : Int) : ∀ (l : List Ed) (x : Wy), (expQ v l x).pre.length + (expQ v l x).t.length ≤ x.pre.length + x.t.length + l.length
  | [], x => Nat.le_refl _
  | e :: l, x => by
    rw [expQ]
    refine Nat.le_trans (expQ_len v l _) ?_
    cases (decide (e.1 = v) && !hasI x.s e.2) <;> simp <;> omega
theorem dn_nil20' : [PV.sc (.bool false), .sc (.bool false), .sc (.bool false), .sc (.bool false), .sc (.bool false), .sc (.bool false), .sc (.bool false), .sc (.bool false), .sc (.bool false), .sc (.bool false), .sc (.bool false), .sc (.bool false), .sc (.bool false), .sc (.bool false), .sc (.bool false), .sc (.bool false), .sc (.bool false), .sc (.bool false), .sc (.bool false), .sc (.bool false)] = dnP 20 [] := dn_nil20
set_option maxRecDepth 100000 in
set_option maxHeartbeats 4000000 in
theorem e58 (fn : Func) (hr : fn.results = #[.cell 4 72]) (b : Bool) (n : Nat) (l : List Ed) (v : Int) (hn : n ≤ 20) (hl : l.length ≤ 400) (he : ∀ e ∈ l, edIn n e = true) (hv : 0 ≤ v ∧ v < n) : lim C0 58 fn [.c (code Try.f58)] ⟨number [grTV b n l, (.pv false (.sc (.int .i64 v)))] 0, []⟩ = some (.ar (dnP 20 (waysL n l he [v] [])), []) := by
  simp [code, Try.f58, hr, dn_nil20']
  refine (loop_go (s0 := ?s1) (fun x => left x.s n + left x.s n + x.t.length) (fun x => [(6, .ref 22 x.pre.length x.t.length), (12, jk 22 x.fr)]) (fun x => [(16, .box [(.pv false (.sc (.int .i64 ((n : Nat))))), .pv b (.sl (eds l))]), (18, .arr (dnP 20 [])), (20, .arr (dnP 20 x.s)), (22, .row .own 3 1 (nums .i64 (x.pre ++ x.t)))]) (fun x => some (.ar (dnP 20 (waysL n l he x.t x.s)), [])) (fun x => left x.s n + x.t.length ≤ n + 1) (⟨true, false, [], [v], []⟩ : Wy) ?hc1 ?h01 ?hs1 ?step1).trans ?r1
  case hc1 => simp; rfl
  case h01 => first | (simp; done) | (simp [*]; done) | exact ⟨by simp, ⟨rfl⟩⟩ | grind | (simp; omega)
  case hs1 => first | (simp; done) | (simp [*]; done)
  case r1 => simp
  rintro ⟨fr, ch, pre, t, s⟩ h2 ih
  simp at h2
  simp
  rcases t with _ | ⟨y, t⟩
  · cases fr <;> simp [waysL, hr]
  · have c1 : (1 : Int) ≤ (t.length : Int) + 1 := by omega
    cases fr
    · simp [c1]
      refine (loop_to (s0 := ?s2) (fun x => l.length - x.1) (fun x => [(24, (.pv false (.sc (.int .i64 ((x.1 : Nat)))))), (6, .ref 22 x.2.pre.length x.2.t.length), (12, jk 22 x.2.fr), (13, jk2 x.2.ch (.ref 22 pre.length (t.length + 1))), (16, jk2 x.2.ch (.ref 22 pre.length (t.length + 1))), (17, jk2 x.2.ch (.ep 22 pre.length 0)), (19, jk2 x.2.ch (.ref 22 pre.length (t.length + 1))), (20, jk2 x.2.ch (.ref 22 (pre.length + 1) t.length))]) (fun x => [(16, .box [(.pv false (.sc (.int .i64 ((n : Nat))))), .pv b (.sl (eds l))]), (18, .arr (dnP 20 [])), (20, .arr (dnP 20 x.2.s)), (22, .row .own 3 1 (nums .i64 (x.2.pre ++ x.2.t)))]) (fun x K => K [(24, (.pv false (.sc (.int .i64 l.length)))), (6, .ref 22 (expQ y (l.drop x.1) x.2).pre.length (expQ y (l.drop x.1) x.2).t.length), (12, jk 22 (expQ y (l.drop x.1) x.2).fr), (13, jk2 (expQ y (l.drop x.1) x.2).ch (.ref 22 pre.length (t.length + 1))), (16, jk2 (expQ y (l.drop x.1) x.2).ch (.ref 22 pre.length (t.length + 1))), (17, jk2 (expQ y (l.drop x.1) x.2).ch (.ep 22 pre.length 0)), (19, jk2 (expQ y (l.drop x.1) x.2).ch (.ref 22 pre.length (t.length + 1))), (20, jk2 (expQ y (l.drop x.1) x.2).ch (.ref 22 (pre.length + 1) t.length))] [(16, .box [(.pv false (.sc (.int .i64 ((n : Nat))))), .pv b (.sl (eds l))]), (18, .arr (dnP 20 [])), (20, .arr (dnP 20 (expQ y (l.drop x.1) x.2).s)), (22, .row .own 3 1 (nums .i64 ((expQ y (l.drop x.1) x.2).pre ++ (expQ y (l.drop x.1) x.2).t)))]) (fun x => x.1 ≤ l.length ∧ x.2.t.length + left x.2.s n ≤ n + 1) ((0 : Nat), (⟨false, false, pre ++ [y], t, s⟩ : Wy)) ?hc2 ?h02 ?hs2 ?step2).trans ?r2
      case hc2 => simp; rfl
      case h02 => first | (simp; done) | (simp [*]; done) | exact ⟨by simp, ⟨rfl⟩⟩ | grind | (simp; omega)
      case hs2 => first | (simp; done) | (simp [*]; done)
      case r2 =>
        have hx := expQ_eq y l ⟨false, false, pre ++ [y], t, s⟩
        have hb := expd_left (n := n) (v := y) l (t, s) he
        have hfr := expQ_fr y l ⟨false, false, pre ++ [y], t, s⟩
        have hln := expQ_len y l ⟨false, false, pre ++ [y], t, s⟩
        simp only at hx
        rw [← hx] at hb
        rw [waysL, ← hx]
        dsimp only [List.drop_zero]
        generalize hq : expQ y l ⟨false, false, pre ++ [y], t, s⟩ = q at *
        obtain ⟨qfr, qch, qpre, qt, qs⟩ := q
        simp at hb h2
        simp [hq]
        refine (ih.out ⟨qfr, false, qpre, qt, qs⟩ _ ?_ ?_ ?_).trans ?_
        · simp; omega
        · simp; omega
        · cases qfr <;> cases qch <;> simp
        · rfl
      clear ih
      rintro k ⟨i, fr, ch, p2, t2, s2⟩ ⟨hi, ht2⟩ ih
      simp at hi ht2 h2
      have g1 : (t2.length + 1) * 8 ≤ Pm.roomBytes := by unfold Pm.roomBytes; omega
      have g2 : t2.length + 1 ≤ 9223372036854775807 := by omega
      simp at g2
      cases fr <;> cases ch
      all_goals simp
      all_goals (first | refine ifL_cases (fun h => ?_) (fun h => ?_) | refine gI_cases' (fun h => ?_) (fun h => ?_) | refine gI_cases (fun h => ?_) (fun h => ?_) | refine dI_cases' (fun h => ?_) (fun h => ?_) | refine dI_cases (fun h => ?_) (fun h => ?_)) <;> first | replace h := of_decide_eq_true h | replace h := of_decide_eq_false h | skip
      all_goals first | (have e : i = l.length := by omega) | skip
      all_goals first | (subst e; simp [expQ]; done) | skip
      all_goals have hb : edIn n l[i] = true := he _ (List.getElem_mem h)
      all_goals have hb1 : 0 ≤ l[i].1 ∧ l[i].1 < n ∧ 0 ≤ l[i].2 ∧ l[i].2 < n := by grind [edIn]
      all_goals have hb2 : max l[i].2 0 = l[i].2 ∧ l[i].2 < 20 := by omega
      all_goals have hb3 : l[i].2.toNat < 20 := by omega
      all_goals have hd := dnP_spl 20 s2 l[i].2.toNat (by omega)
      all_goals simp [hb2] at hd
      all_goals have hlt := fun h => left_at (s := s2) (n := n) hb1.2.2 h
      all_goals simp [*]
      all_goals (first | refine ifL_cases (fun h => ?_) (fun h => ?_) | refine gI_cases' (fun h => ?_) (fun h => ?_) | refine gI_cases (fun h => ?_) (fun h => ?_) | refine dI_cases' (fun h => ?_) (fun h => ?_) | refine dI_cases (fun h => ?_) (fun h => ?_)) <;> first | replace h := of_decide_eq_true h | replace h := of_decide_eq_false h | skip
      all_goals simp [*]
      all_goals try (first | refine ifL_cases (fun h => ?_) (fun h => ?_) | refine gI_cases' (fun h => ?_) (fun h => ?_) | refine gI_cases (fun h => ?_) (fun h => ?_) | refine dI_cases' (fun h => ?_) (fun h => ?_) | refine dI_cases (fun h => ?_) (fun h => ?_)) <;> first | replace h := of_decide_eq_true h | replace h := of_decide_eq_false h | skip
      all_goals try simp [*]
      all_goals try simp (disch := omega) only [wrap_id']
      all_goals simp only [expQ_at (show i < l.length by assumption)]
      all_goals first | (refine (ih.out (i + 1, ⟨false, true, [], t2 ++ [l[i].2], s2 ++ [l[i].2]⟩) _ (by simp; omega) (by first | (have := hlt h; simp; omega) | omega) (by first | (simp [*]; done) | (simp [*]; omega))).trans ?_) | (refine (ih.out (i + 1, ⟨false, false, p2, t2, s2⟩) _ (by simp; omega) (by simp; omega) (by first | (simp [*]; done) | (simp [*]; omega))).trans ?_) | (refine (ih.out (i + 1, ⟨false, true, p2, t2, s2⟩) _ (by simp; omega) (by simp; omega) (by first | (simp [*]; done) | (simp [*]; omega))).trans ?_) | (refine (ih.out (i + 1, ⟨true, false, p2, t2, s2⟩) _ (by simp; omega) (by simp; omega) (by first | (simp [*]; done) | (simp [*]; omega))).trans ?_) | (refine (ih.out (i + 1, ⟨true, true, p2, t2, s2⟩) _ (by simp; omega) (by simp; omega) (by first | (simp [*]; done) | (simp [*]; omega))).trans ?_)
      all_goals simp [*]
    · simp [c1]
      refine (loop_to (s0 := ?s3) (fun x => l.length - x.1) (fun x => [(24, (.pv false (.sc (.int .i64 ((x.1 : Nat)))))), (6, .ref 22 x.2.pre.length x.2.t.length), (12, jk 22 x.2.fr), (13, jk2 x.2.ch (.ref 22 pre.length (t.length + 1))), (16, jk2 x.2.ch (.ref 22 pre.length (t.length + 1))), (17, jk2 x.2.ch (.ep 22 pre.length 0)), (19, jk2 x.2.ch (.ref 22 pre.length (t.length + 1))), (20, jk2 x.2.ch (.ref 22 (pre.length + 1) t.length))]) (fun x => [(16, .box [(.pv false (.sc (.int .i64 ((n : Nat))))), .pv b (.sl (eds l))]), (18, .arr (dnP 20 [])), (20, .arr (dnP 20 x.2.s)), (22, .row .own 3 1 (nums .i64 (x.2.pre ++ x.2.t)))]) (fun x K => K [(24, (.pv false (.sc (.int .i64 l.length)))), (6, .ref 22 (expQ y (l.drop x.1) x.2).pre.length (expQ y (l.drop x.1) x.2).t.length), (12, jk 22 (expQ y (l.drop x.1) x.2).fr), (13, jk2 (expQ y (l.drop x.1) x.2).ch (.ref 22 pre.length (t.length + 1))), (16, jk2 (expQ y (l.drop x.1) x.2).ch (.ref 22 pre.length (t.length + 1))), (17, jk2 (expQ y (l.drop x.1) x.2).ch (.ep 22 pre.length 0)), (19, jk2 (expQ y (l.drop x.1) x.2).ch (.ref 22 pre.length (t.length + 1))), (20, jk2 (expQ y (l.drop x.1) x.2).ch (.ref 22 (pre.length + 1) t.length))] [(16, .box [(.pv false (.sc (.int .i64 ((n : Nat))))), .pv b (.sl (eds l))]), (18, .arr (dnP 20 [])), (20, .arr (dnP 20 (expQ y (l.drop x.1) x.2).s)), (22, .row .own 3 1 (nums .i64 ((expQ y (l.drop x.1) x.2).pre ++ (expQ y (l.drop x.1) x.2).t)))]) (fun x => x.1 ≤ l.length ∧ x.2.t.length + left x.2.s n ≤ n + 1) ((0 : Nat), (⟨true, false, pre ++ [y], t, s⟩ : Wy)) ?hc3 ?h03 ?hs3 ?step3).trans ?r3
      case hc3 => simp; rfl
      case h03 => first | (simp; done) | (simp [*]; done) | exact ⟨by simp, ⟨rfl⟩⟩ | grind | (simp; omega)
      case hs3 => first | (simp; done) | (simp [*]; done)
      case r3 =>
        have hx := expQ_eq y l ⟨true, false, pre ++ [y], t, s⟩
        have hb := expd_left (n := n) (v := y) l (t, s) he
        have hfr := expQ_fr y l ⟨true, false, pre ++ [y], t, s⟩
        have hln := expQ_len y l ⟨true, false, pre ++ [y], t, s⟩
        simp only at hx
        rw [← hx] at hb
        rw [waysL, ← hx]
        dsimp only [List.drop_zero]
        generalize hq : expQ y l ⟨true, false, pre ++ [y], t, s⟩ = q at *
        obtain ⟨qfr, qch, qpre, qt, qs⟩ := q
        simp at hb h2
        simp [hq]
        refine (ih.out ⟨qfr, false, qpre, qt, qs⟩ _ ?_ ?_ ?_).trans ?_
        · simp; omega
        · simp; omega
        · cases qfr <;> cases qch <;> simp
        · rfl
      clear ih
      rintro k ⟨i, fr, ch, p2, t2, s2⟩ ⟨hi, ht2⟩ ih
      simp at hi ht2 h2
      have g1 : (t2.length + 1) * 8 ≤ Pm.roomBytes := by unfold Pm.roomBytes; omega
      have g2 : t2.length + 1 ≤ 9223372036854775807 := by omega
      simp at g2
      cases fr <;> cases ch
      all_goals simp
      all_goals (first | refine ifL_cases (fun h => ?_) (fun h => ?_) | refine gI_cases' (fun h => ?_) (fun h => ?_) | refine gI_cases (fun h => ?_) (fun h => ?_) | refine dI_cases' (fun h => ?_) (fun h => ?_) | refine dI_cases (fun h => ?_) (fun h => ?_)) <;> first | replace h := of_decide_eq_true h | replace h := of_decide_eq_false h | skip
      all_goals first | (have e : i = l.length := by omega) | skip
      all_goals first | (subst e; simp [expQ]; done) | skip
      all_goals have hb : edIn n l[i] = true := he _ (List.getElem_mem h)
      all_goals have hb1 : 0 ≤ l[i].1 ∧ l[i].1 < n ∧ 0 ≤ l[i].2 ∧ l[i].2 < n := by grind [edIn]
      all_goals have hb2 : max l[i].2 0 = l[i].2 ∧ l[i].2 < 20 := by omega
      all_goals have hb3 : l[i].2.toNat < 20 := by omega
      all_goals have hd := dnP_spl 20 s2 l[i].2.toNat (by omega)
      all_goals simp [hb2] at hd
      all_goals have hlt := fun h => left_at (s := s2) (n := n) hb1.2.2 h
      all_goals simp [*]
      all_goals (first | refine ifL_cases (fun h => ?_) (fun h => ?_) | refine gI_cases' (fun h => ?_) (fun h => ?_) | refine gI_cases (fun h => ?_) (fun h => ?_) | refine dI_cases' (fun h => ?_) (fun h => ?_) | refine dI_cases (fun h => ?_) (fun h => ?_)) <;> first | replace h := of_decide_eq_true h | replace h := of_decide_eq_false h | skip
      all_goals simp [*]
      all_goals try (first | refine ifL_cases (fun h => ?_) (fun h => ?_) | refine gI_cases' (fun h => ?_) (fun h => ?_) | refine gI_cases (fun h => ?_) (fun h => ?_) | refine dI_cases' (fun h => ?_) (fun h => ?_) | refine dI_cases (fun h => ?_) (fun h => ?_)) <;> first | replace h := of_decide_eq_true h | replace h := of_decide_eq_false h | skip
      all_goals try simp [*]
      all_goals try simp (disch := omega) only [wrap_id']
      all_goals simp only [expQ_at (show i < l.length by assumption)]
      all_goals first | (refine (ih.out (i + 1, ⟨false, true, [], t2 ++ [l[i].2], s2 ++ [l[i].2]⟩) _ (by simp; omega) (by first | (have := hlt h; simp; omega) | omega) (by first | (simp [*]; done) | (simp [*]; omega))).trans ?_) | (refine (ih.out (i + 1, ⟨false, false, p2, t2, s2⟩) _ (by simp; omega) (by simp; omega) (by first | (simp [*]; done) | (simp [*]; omega))).trans ?_) | (refine (ih.out (i + 1, ⟨false, true, p2, t2, s2⟩) _ (by simp; omega) (by simp; omega) (by first | (simp [*]; done) | (simp [*]; omega))).trans ?_) | (refine (ih.out (i + 1, ⟨true, false, p2, t2, s2⟩) _ (by simp; omega) (by simp; omega) (by first | (simp [*]; done) | (simp [*]; omega))).trans ?_) | (refine (ih.out (i + 1, ⟨true, true, p2, t2, s2⟩) _ (by simp; omega) (by simp; omega) (by first | (simp [*]; done) | (simp [*]; omega))).trans ?_)
      all_goals simp [*]
theorem p58 (b : Bool) (n : Nat) (l : List Ed) (v : Int) (hn : n ≤ 20) (hl : l.length ≤ 400) (he : ∀ e ∈ l, edIn n e = true) (hv : 0 ≤ v ∧ v < n) : phi C0 (lim C0) 58 [grTV b n l, (.pv false (.sc (.int .i64 v)))] [] = some (.ar (dnP 20 (waysL n l he [v] [])), []) := call0 Try.func58 (by kernel_rfl) (e58 Try.f58 Try.results58 b n l v hn hl he hv)
end Go.Proofs.Ytopoaemlbnkhgaa
