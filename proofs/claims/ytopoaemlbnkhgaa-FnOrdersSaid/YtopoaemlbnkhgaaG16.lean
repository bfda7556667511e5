/- Turned, by the reference. -/
import Derived.Test.YtopoaemlbnkhgaaG15
namespace Go.Proofs.Ytopoaemlbnkhgaa
open Go Go.Pm Go.Proofs
set_option linter.unusedVariables false
set_option linter.unusedSimpArgs false
/-- The edges to v, turned. -/
def toV (v : Int) : List Ed → List Ed
  | [] => []
  | e :: l => bif decide (e.2 = v) then (v, e.1) :: toV v l else toV v l
theorem toV_app (v : Int) : ∀ l m : List Ed, toV v (l ++ m) = toV v l ++ toV v m
  | [], m => rfl
  | e :: l, m => by
    simp only [toV, List.cons_append, toV_app v l m]
    cases decide (e.2 = v) <;> rfl
theorem toV_len (v : Int) : ∀ l : List Ed, (toV v l).length ≤ l.length
  | [] => Nat.le_refl _
  | e :: l => by have := toV_len v l; simp only [toV]; cases decide (e.2 = v) <;> simp <;> omega
theorem toV_take {a o : List Ed} {v : Int} {l : List Ed} {i : Nat} (h : i < l.length) (ho : o = a ++ toV v (l.take i)) : a ++ toV v (l.take (i + 1)) = o ++ (bif decide (l[i].2 = v) then [(v, l[i].1)] else []) := by
  rw [List.take_succ_eq_append_getElem h, toV_app, ho, List.append_assoc]
  rfl
def apd (a m : List Ed) : List Ed := bif m.isEmpty then a else a ++ m
theorem apd_eq (a m : List Ed) : apd a m = a ++ m := by cases m <;> simp [apd]
def turnS (l : List Ed) : Nat → List Ed
  | 0 => []
  | n + 1 => turnS l n ++ toV n l
theorem turnS_len (l : List Ed) (hl : l.length ≤ 400) : ∀ n, (turnS l n).length ≤ n * 400
  | 0 => Nat.le_refl _
  | n + 1 => by have h1 := turnS_len l hl n; have h2 := toV_len n l; simp only [turnS, List.length_append]; omega
@[simp] theorem turnS_zero (l : List Ed) : turnS l 0 = [] := rfl
@[simp] theorem toV_nil (v : Int) : toV v [] = [] := rfl
set_option maxRecDepth 100000 in
set_option maxHeartbeats 4000000 in
theorem e41_no (fn : Func) (hr : fn.results = #[.cell 2 34, .tmp 3]) (b : Bool) (n : Int) (l : List Ed) (hl : l.length ≤ 1048576) (hg : gOk n l = false) : lim C0 41 fn [.c (code Try.f41)] ⟨number [grTV b n l] 0, []⟩ = some (.tu [grTV false 0 [], (.pv false (.sc (.bool false)))], []) := by
  have hp11 := plan41_11
  simp [opsOf, code, Try.f41] at hp11
  have p1 := p45
  simp only [grTV] at p1
  simp [code, Try.f41, hr, hp11, p1, hg, hl]
theorem p41_no (b : Bool) (n : Int) (l : List Ed) (hl : l.length ≤ 1048576) (hg : gOk n l = false) : phi C0 (lim C0) 41 [grTV b n l] [] = some (.tu [grTV false 0 [], (.pv false (.sc (.bool false)))], []) := call0 Try.func41 (by kernel_rfl) (e41_no Try.f41 Try.results41 b n l hl hg)
set_option maxRecDepth 100000 in
set_option maxHeartbeats 4000000 in
theorem e41 (fn : Func) (hr : fn.results = #[.cell 2 34, .tmp 3]) (b : Bool) (n : Nat) (l : List Ed) (hn : n ≤ 20) (hl : l.length ≤ 400) (hg : gOk n l = true) : lim C0 41 fn [.c (code Try.f41)] ⟨number [grTV b n l] 0, []⟩ = some (.tu [grTV false n (turnS l n), (.pv false (.sc (.bool true)))], []) := by
  have hp11 := plan41_11
  simp [opsOf, code, Try.f41] at hp11
  have p1 := fun b => p45 b n l (by omega)
  simp only [grTV] at p1
  simp [code, Try.f41, hr, hp11, p1, hg, hl]
  refine (loop_to (s0 := ?s1) (fun x => n - x.1) (fun x => [(5, (.pv false (.sc (.int .i64 ((x.1 : Nat))))))]) (fun x => [(16, .box [(.pv false (.sc (.int .i64 ((n : Nat))))), .pv b (.sl (eds l))]), (18, .box [(.pv false (.sc (.int .i64 0))), .nl]), (20, .box [(.pv false (.sc (.int .i64 ((n : Nat))))), slT 22 x.2])] ++ slH 22 42 2 edP x.2) (fun x K => K [(5, (.pv false (.sc (.int .i64 ((n : Nat))))))] ([(16, .box [(.pv false (.sc (.int .i64 ((n : Nat))))), .pv b (.sl (eds l))]), (18, .box [(.pv false (.sc (.int .i64 0))), .nl]), (20, .box [(.pv false (.sc (.int .i64 ((n : Nat))))), slT 22 (turnS l n)])] ++ slH 22 42 2 edP (turnS l n))) (fun x => x.1 ≤ n ∧ Hid (x.2 = turnS l x.1)) ((0 : Nat), ([] : List Ed)) ?hc1 ?h01 ?hs1 ?step1).trans ?r1
  case hc1 => simp; rfl
  case h01 => first | (simp; done) | (simp [*]; done) | exact ⟨by simp, ⟨rfl⟩⟩ | grind | (simp; omega)
  case hs1 => first | (simp; done) | (simp [*]; done)
  case r1 => cases hk : turnS l n <;> simp [hr, hk]
  rintro k ⟨v, acc⟩ ⟨hv, ha⟩ ih
  have hlen := turnS_len l hl v
  simp at hv
  rw [← ha.out] at hlen
  simp at hlen
  have hts : Hid (turnS l (v + 1) = acc ++ toV v l) := ⟨by have h' : acc = turnS l v := ha.out; subst h'; rfl⟩
  rcases acc with _ | ⟨a0, acc⟩
  all_goals simp
  · (first | refine ifL_cases (fun h => ?_) (fun h => ?_) | refine gI_cases' (fun h => ?_) (fun h => ?_) | refine gI_cases (fun h => ?_) (fun h => ?_) | refine dI_cases' (fun h => ?_) (fun h => ?_) | refine dI_cases (fun h => ?_) (fun h => ?_)) <;> first | replace h := of_decide_eq_true h | replace h := of_decide_eq_false h | skip
    · simp [*]
      have hw : ([] : List Ed) ++ toV v l = turnS l (v + 1) := hts.out.symm
      clear hts
      generalize hwe : turnS l (v + 1) = w at hw
      refine (loop_to (s0 := ?s2) (fun x => l.length - x.1) (fun x => [(6, (.pv false (.sc (.int .i64 ((x.1 : Nat))))))]) (fun x => [(16, .box [(.pv false (.sc (.int .i64 ((n : Nat))))), .pv b (.sl (eds l))]), (18, .box [(.pv false (.sc (.int .i64 0))), .nl]), (20, .box [(.pv false (.sc (.int .i64 ((n : Nat))))), slT 22 x.2])] ++ slH 22 42 2 edP x.2) (fun x K => K [(6, (.pv false (.sc (.int .i64 l.length))))] ([(16, .box [(.pv false (.sc (.int .i64 ((n : Nat))))), .pv b (.sl (eds l))]), (18, .box [(.pv false (.sc (.int .i64 0))), .nl]), (20, .box [(.pv false (.sc (.int .i64 ((n : Nat))))), slT 22 w])] ++ slH 22 42 2 edP w)) (fun x => x.1 ≤ l.length ∧ Hid (x.2 = apd ([] : List Ed) (toV v (l.take x.1)))) ((0 : Nat), ([] : List Ed)) ?hc2 ?h02 ?hs2 ?step2).trans ?r2
      case hc2 => simp; rfl
      case h02 => first | (simp; done) | (simp [*]; done) | exact ⟨by simp, ⟨rfl⟩⟩ | grind | (simp; omega)
      case hs2 => first | (simp; done) | (simp [*]; done)
      case r2 =>
        rcases w with _ | ⟨w0, w⟩
        all_goals simp
        all_goals try simp (disch := omega) only [wrap_id']
        · refine (ih.out (v + 1, []) _ ?_ ?_ ?_).trans ?_
          · simp; omega
          · exact ⟨by simp; omega, ⟨hwe.symm⟩⟩
          · simp
          · rfl
        · refine (ih.out (v + 1, w0 :: w) _ ?_ ?_ ?_).trans ?_
          · simp; omega
          · exact ⟨by simp; omega, ⟨hwe.symm⟩⟩
          · simp
          · rfl
      clear ih
      rintro k ⟨i, o⟩ ⟨hi, ho⟩ ih
      have ho' := ho.out.trans (apd_eq _ _)
      have hend : i = l.length → o = w := by rintro rfl; have h2 := ho'; simp only [List.take_length] at h2; exact h2.trans hw
      have hol := toV_len v (l.take i)
      have hol2 := congrArg List.length ho'
      simp at hi hol hol2 hlen
      have g5 : (o.length + 1) * 16 ≤ Pm.roomBytes := by unfold Pm.roomBytes; omega
      have g6 : o.length + 1 ≤ 9223372036854775807 := by omega
      have hn' := fun h => (⟨(apd_eq _ _).trans (toV_take (i := i) h ho')⟩ : Hid _)
      clear hol hol2 ho'
      rcases o with _ | ⟨b0, o⟩
      all_goals simp
      all_goals simp at g5 g6
      · (first | refine ifL_cases (fun h => ?_) (fun h => ?_) | refine gI_cases' (fun h => ?_) (fun h => ?_) | refine gI_cases (fun h => ?_) (fun h => ?_) | refine dI_cases' (fun h => ?_) (fun h => ?_) | refine dI_cases (fun h => ?_) (fun h => ?_)) <;> first | replace h := of_decide_eq_true h | replace h := of_decide_eq_false h | skip
        · have hq := hn' h
          simp [*]
          (first | refine ifL_cases (fun h => ?_) (fun h => ?_) | refine gI_cases' (fun h => ?_) (fun h => ?_) | refine gI_cases (fun h => ?_) (fun h => ?_) | refine dI_cases' (fun h => ?_) (fun h => ?_) | refine dI_cases (fun h => ?_) (fun h => ?_)) <;> first | replace h := of_decide_eq_true h | replace h := of_decide_eq_false h | skip
          · simp [*]
            refine (ih.out (i + 1, [((v : Int), l[i].1)]) _ ?_ ?_ ?_).trans ?_
            · simp; omega
            · exact ⟨by simp; omega, ⟨by rw [hq.out]; simp [*]⟩⟩
            · simp
              try simp (disch := omega) only [wrap_id']
            · rfl
          · simp [*]
            refine (ih.out (i + 1, []) _ ?_ ?_ ?_).trans ?_
            · simp; omega
            · exact ⟨by simp; omega, ⟨by rw [hq.out]; simp [*]⟩⟩
            · simp
              try simp (disch := omega) only [wrap_id']
            · rfl
        · have e : i = l.length := by omega
          have e2 := hend e
          subst e e2
          simp
      · (first | refine ifL_cases (fun h => ?_) (fun h => ?_) | refine gI_cases' (fun h => ?_) (fun h => ?_) | refine gI_cases (fun h => ?_) (fun h => ?_) | refine dI_cases' (fun h => ?_) (fun h => ?_) | refine dI_cases (fun h => ?_) (fun h => ?_)) <;> first | replace h := of_decide_eq_true h | replace h := of_decide_eq_false h | skip
        · have hq := hn' h
          simp [*]
          (first | refine ifL_cases (fun h => ?_) (fun h => ?_) | refine gI_cases' (fun h => ?_) (fun h => ?_) | refine gI_cases (fun h => ?_) (fun h => ?_) | refine dI_cases' (fun h => ?_) (fun h => ?_) | refine dI_cases (fun h => ?_) (fun h => ?_)) <;> first | replace h := of_decide_eq_true h | replace h := of_decide_eq_false h | skip
          · simp [*]
            refine (ih.out (i + 1, b0 :: (o ++ [((v : Int), l[i].1)])) _ ?_ ?_ ?_).trans ?_
            · simp; omega
            · exact ⟨by simp; omega, ⟨by rw [hq.out]; simp [*]⟩⟩
            · simp
              try simp (disch := omega) only [wrap_id']
            · rfl
          · simp [*]
            refine (ih.out (i + 1, b0 :: o) _ ?_ ?_ ?_).trans ?_
            · simp; omega
            · exact ⟨by simp; omega, ⟨by rw [hq.out]; simp [*]⟩⟩
            · simp
              try simp (disch := omega) only [wrap_id']
            · rfl
        · have e : i = l.length := by omega
          have e2 := hend e
          subst e e2
          simp
    · have e : v = n := by omega
      subst e
      simp [← ha.out]
  · (first | refine ifL_cases (fun h => ?_) (fun h => ?_) | refine gI_cases' (fun h => ?_) (fun h => ?_) | refine gI_cases (fun h => ?_) (fun h => ?_) | refine dI_cases' (fun h => ?_) (fun h => ?_) | refine dI_cases (fun h => ?_) (fun h => ?_)) <;> first | replace h := of_decide_eq_true h | replace h := of_decide_eq_false h | skip
    · simp [*]
      have hw : (a0 :: acc) ++ toV v l = turnS l (v + 1) := hts.out.symm
      clear hts
      generalize hwe : turnS l (v + 1) = w at hw
      refine (loop_to (s0 := ?s3) (fun x => l.length - x.1) (fun x => [(6, (.pv false (.sc (.int .i64 ((x.1 : Nat))))))]) (fun x => [(16, .box [(.pv false (.sc (.int .i64 ((n : Nat))))), .pv b (.sl (eds l))]), (18, .box [(.pv false (.sc (.int .i64 0))), .nl]), (20, .box [(.pv false (.sc (.int .i64 ((n : Nat))))), slT 22 x.2])] ++ slH 22 42 2 edP x.2) (fun x K => K [(6, (.pv false (.sc (.int .i64 l.length))))] ([(16, .box [(.pv false (.sc (.int .i64 ((n : Nat))))), .pv b (.sl (eds l))]), (18, .box [(.pv false (.sc (.int .i64 0))), .nl]), (20, .box [(.pv false (.sc (.int .i64 ((n : Nat))))), slT 22 w])] ++ slH 22 42 2 edP w)) (fun x => x.1 ≤ l.length ∧ Hid (x.2 = apd (a0 :: acc) (toV v (l.take x.1)))) ((0 : Nat), (a0 :: acc)) ?hc3 ?h03 ?hs3 ?step3).trans ?r3
      case hc3 => simp; rfl
      case h03 => first | (simp; done) | (simp [*]; done) | exact ⟨by simp, ⟨rfl⟩⟩ | grind | (simp; omega)
      case hs3 => first | (simp; done) | (simp [*]; done)
      case r3 =>
        rcases w with _ | ⟨w0, w⟩
        all_goals simp
        all_goals try simp (disch := omega) only [wrap_id']
        · refine (ih.out (v + 1, []) _ ?_ ?_ ?_).trans ?_
          · simp; omega
          · exact ⟨by simp; omega, ⟨hwe.symm⟩⟩
          · simp
          · rfl
        · refine (ih.out (v + 1, w0 :: w) _ ?_ ?_ ?_).trans ?_
          · simp; omega
          · exact ⟨by simp; omega, ⟨hwe.symm⟩⟩
          · simp
          · rfl
      clear ih
      rintro k ⟨i, o⟩ ⟨hi, ho⟩ ih
      have ho' := ho.out.trans (apd_eq _ _)
      have hend : i = l.length → o = w := by rintro rfl; have h2 := ho'; simp only [List.take_length] at h2; exact h2.trans hw
      have hol := toV_len v (l.take i)
      have hol2 := congrArg List.length ho'
      simp at hi hol hol2 hlen
      have g5 : (o.length + 1) * 16 ≤ Pm.roomBytes := by unfold Pm.roomBytes; omega
      have g6 : o.length + 1 ≤ 9223372036854775807 := by omega
      have hn' := fun h => (⟨(apd_eq _ _).trans (toV_take (i := i) h ho')⟩ : Hid _)
      clear hol hol2 ho'
      rcases o with _ | ⟨b0, o⟩
      all_goals simp
      all_goals simp at g5 g6
      · (first | refine ifL_cases (fun h => ?_) (fun h => ?_) | refine gI_cases' (fun h => ?_) (fun h => ?_) | refine gI_cases (fun h => ?_) (fun h => ?_) | refine dI_cases' (fun h => ?_) (fun h => ?_) | refine dI_cases (fun h => ?_) (fun h => ?_)) <;> first | replace h := of_decide_eq_true h | replace h := of_decide_eq_false h | skip
        · have hq := hn' h
          simp [*]
          (first | refine ifL_cases (fun h => ?_) (fun h => ?_) | refine gI_cases' (fun h => ?_) (fun h => ?_) | refine gI_cases (fun h => ?_) (fun h => ?_) | refine dI_cases' (fun h => ?_) (fun h => ?_) | refine dI_cases (fun h => ?_) (fun h => ?_)) <;> first | replace h := of_decide_eq_true h | replace h := of_decide_eq_false h | skip
          · simp [*]
            refine (ih.out (i + 1, [((v : Int), l[i].1)]) _ ?_ ?_ ?_).trans ?_
            · simp; omega
            · exact ⟨by simp; omega, ⟨by rw [hq.out]; simp [*]⟩⟩
            · simp
              try simp (disch := omega) only [wrap_id']
            · rfl
          · simp [*]
            refine (ih.out (i + 1, []) _ ?_ ?_ ?_).trans ?_
            · simp; omega
            · exact ⟨by simp; omega, ⟨by rw [hq.out]; simp [*]⟩⟩
            · simp
              try simp (disch := omega) only [wrap_id']
            · rfl
        · have e : i = l.length := by omega
          have e2 := hend e
          subst e e2
          simp
      · (first | refine ifL_cases (fun h => ?_) (fun h => ?_) | refine gI_cases' (fun h => ?_) (fun h => ?_) | refine gI_cases (fun h => ?_) (fun h => ?_) | refine dI_cases' (fun h => ?_) (fun h => ?_) | refine dI_cases (fun h => ?_) (fun h => ?_)) <;> first | replace h := of_decide_eq_true h | replace h := of_decide_eq_false h | skip
        · have hq := hn' h
          simp [*]
          (first | refine ifL_cases (fun h => ?_) (fun h => ?_) | refine gI_cases' (fun h => ?_) (fun h => ?_) | refine gI_cases (fun h => ?_) (fun h => ?_) | refine dI_cases' (fun h => ?_) (fun h => ?_) | refine dI_cases (fun h => ?_) (fun h => ?_)) <;> first | replace h := of_decide_eq_true h | replace h := of_decide_eq_false h | skip
          · simp [*]
            refine (ih.out (i + 1, b0 :: (o ++ [((v : Int), l[i].1)])) _ ?_ ?_ ?_).trans ?_
            · simp; omega
            · exact ⟨by simp; omega, ⟨by rw [hq.out]; simp [*]⟩⟩
            · simp
              try simp (disch := omega) only [wrap_id']
            · rfl
          · simp [*]
            refine (ih.out (i + 1, b0 :: o) _ ?_ ?_ ?_).trans ?_
            · simp; omega
            · exact ⟨by simp; omega, ⟨by rw [hq.out]; simp [*]⟩⟩
            · simp
              try simp (disch := omega) only [wrap_id']
            · rfl
        · have e : i = l.length := by omega
          have e2 := hend e
          subst e e2
          simp
    · have e : v = n := by omega
      subst e
      simp [← ha.out]
theorem p41 (b : Bool) (n : Nat) (l : List Ed) (hn : n ≤ 20) (hl : l.length ≤ 400) (hg : gOk n l = true) : phi C0 (lim C0) 41 [grTV b n l] [] = some (.tu [grTV false n (turnS l n), (.pv false (.sc (.bool true)))], []) := call0 Try.func41 (by kernel_rfl) (e41 Try.f41 Try.results41 b n l hn hl hg)
end Go.Proofs.Ytopoaemlbnkhgaa
