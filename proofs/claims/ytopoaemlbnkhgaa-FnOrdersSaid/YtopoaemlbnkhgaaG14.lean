/- Rings. -/
import Derived.Test.YtopoaemlbnkhgaaG13
namespace Go.Proofs.Ytopoaemlbnkhgaa
open Go Go.Pm Go.Proofs
set_option linter.unusedVariables false
set_option linter.unusedSimpArgs false
def ringsL (f : Int → Bool) : Nat → List Int
  | 0 => []
  | n + 1 => ringsL f n ++ (bif f (n : Int) then [(n : Int)] else [])
theorem nexts_app (a : Int) : ∀ l m : List Ed, nexts a (l ++ m) = nexts a l ++ nexts a m
  | [], m => rfl
  | e :: l, m => by
    simp only [nexts, List.cons_append, nexts_app a l m]
    cases decide (e.1 = a) <;> rfl
theorem nexts_take {a : Int} {l : List Ed} {i : Nat} (h : i < l.length) : nexts a (l.take (i + 1)) = nexts a (l.take i) ++ (bif decide (l[i].1 = a) then [l[i].2] else []) := by
  rw [List.take_succ_eq_append_getElem h, nexts_app]
  rfl
theorem nexts_len (a : Int) : ∀ l : List Ed, (nexts a l).length ≤ l.length
  | [] => Nat.le_refl _
  | e :: l => by have := nexts_len a l; simp only [nexts]; cases decide (e.1 = a) <;> simp <;> omega
theorem nexts_in {n : Nat} (a : Int) {l : List Ed} (h : ∀ e ∈ l, edIn n e = true) : ∀ x ∈ nexts a l, 0 ≤ x ∧ x < n := by
  induction l with
  | nil => simp [nexts]
  | cons e l ih =>
    have h1 := h e (List.mem_cons_self ..)
    have h2 := ih fun x hx => h x (List.mem_cons_of_mem _ hx)
    simp only [nexts]
    intro x hx
    cases hc : decide (e.1 = a) <;> rw [hc] at hx <;> simp at hx
    · exact h2 x hx
    · rcases hx with rfl | hx
      · grind [edIn]
      · exact h2 x hx
/-- How often it is there. -/
def timesI (v : Int) : List Int → Nat
  | [] => 0
  | x :: l => timesI v l + (bif decide (x = v) then 1 else 0)
theorem timesI_app (v : Int) : ∀ l m : List Int, timesI v (l ++ m) = timesI v l + timesI v m
  | [], m => by simp [timesI]
  | x :: l, m => by simp only [List.cons_append, timesI, timesI_app v l m]; omega
theorem timesI_told (s : List Int) (v : Nat) : ∀ n, timesI v (told s n) = bif decide (v < n) && hasI s v then 1 else 0
  | 0 => by simp [told, timesI]
  | n + 1 => by
    simp only [told, timesI_app, timesI_told s v n]
    by_cases h1 : v < n
    · have h2 : v < n + 1 := by omega
      have h3 : ¬ ((n : Int) = v) := by omega
      cases hn : hasI s (n : Int) <;> simp [timesI, h1, h2, h3]
    · by_cases h2 : v = n
      · subst h2
        cases hn : hasI s (v : Int) <;> simp [timesI, hn]
      · have h3 : ¬ ((n : Int) = v) := by omega
        have h4 : ¬ v < n + 1 := by omega
        cases hn : hasI s (n : Int) <;> simp [timesI, h1, h4, h3]
theorem timesI_take {v : Int} {l : List Int} {i : Nat} (h : i < l.length) : timesI v (l.take (i + 1)) = timesI v (l.take i) + (bif decide (l[i] = v) then 1 else 0) := by
  rw [List.take_succ_eq_append_getElem h, timesI_app]
  simp [timesI]
theorem timesI_len (v : Int) : ∀ l : List Int, timesI v l ≤ l.length
  | [] => Nat.le_refl _
  | x :: l => by have := timesI_len v l; simp only [timesI]; cases decide (x = v) <;> simp <;> omega
def repI (o : List Int) : Nat → Int → List Int
  | 0, _ => o
  | t + 1, v => repI o t v ++ [v]
@[simp] theorem repI_len (o : List Int) (v : Int) : ∀ t, (repI o t v).length = o.length + t
  | 0 => rfl
  | t + 1 => by simp [repI, repI_len o v t]; omega
theorem rep_take {out0 o : List Int} {v : Int} {L : List Int} {i : Nat} (h : i < L.length) (ho : o = repI out0 (timesI v (L.take i)) v) : repI out0 (timesI v (L.take (i + 1))) v = o ++ (bif decide (L[i] = v) then [v] else []) := by
  rw [timesI_take h, ho]
  cases decide (L[i] = v) <;> simp [repI]
def po : List Int → Nat
  | [] => 18
  | _ :: _ => 20
@[simp] theorem po_nil : po [] = 18 := rfl
@[simp] theorem po_cons (a : Int) (l : List Int) : po (a :: l) = 20 := rfl
@[simp] theorem po_snoc (a : Int) (l : List Int) : po (l ++ [a]) = 20 := by cases l <;> rfl
theorem ringsL_len (f : Int → Bool) : ∀ n, (ringsL f n).length ≤ n
  | 0 => Nat.le_refl _
  | n + 1 => by have := ringsL_len f n; simp only [ringsL]; cases f (n : Int) <;> simp <;> omega
@[simp] theorem ringsL_zero (f : Int → Bool) : ringsL f 0 = [] := rfl
theorem ringsL_eq {f g : Int → Bool} : ∀ n, (∀ v : Nat, v < n → f v = g v) → ringsL f n = ringsL g n
  | 0, _ => rfl
  | n + 1, h => by rw [ringsL, ringsL, ringsL_eq n fun v hv => h v (by omega), h n (by omega)]
def jk0 (o : Nat) : List Int → TV
  | [] => .ref o 0 0
  | _ :: _ => .ud
@[simp] theorem jk0_nil (o : Nat) : jk0 o [] = .ref o 0 0 := rfl
@[simp] theorem jk0_cons (o : Nat) (a : Int) (l : List Int) : jk0 o (a :: l) = .ud := rfl
@[simp] theorem jk0_snoc (o : Nat) (a : Int) (l : List Int) : jk0 o (l ++ [a]) = .ud := by cases l <;> rfl
set_option maxRecDepth 100000 in
set_option maxHeartbeats 4000000 in
theorem e39_no (fn : Func) (hr : fn.results = #[.tmp 2]) (b : Bool) (n : Int) (l : List Ed) (hl : l.length ≤ 1048576) (hg : gOk n l = false) : lim C0 39 fn [.c (code Try.f39)] ⟨number [grTV b n l] 0, []⟩ = some (.ref 16 0 0, [(16, .row .own 3 1 [])]) := by
  have p1 := p59
  simp only [grTV] at p1
  simp [code, Try.f39, hr, p1, hg, hl]
theorem p39_no (b : Bool) (n : Int) (l : List Ed) (hl : l.length ≤ 1048576) (hg : gOk n l = false) : phi C0 (lim C0) 39 [grTV b n l] [] = some (.ref 16 0 0, [(16, .row .own 3 1 [])]) := call0 Try.func39 (by kernel_rfl) (e39_no Try.f39 Try.results39 b n l hl hg)
set_option maxRecDepth 100000 in
set_option maxHeartbeats 4000000 in
theorem e39 (fn : Func) (hr : fn.results = #[.tmp 2]) (b : Bool) (n : Nat) (l : List Ed) (hn : n ≤ 20) (hl : l.length ≤ 400) (hg : gOk n l = true) (he : ∀ e ∈ l, edIn n e = true) : lim C0 39 fn [.c (code Try.f39)] ⟨number [grTV b n l] 0, []⟩ = some (.ref 16 0 (ringsL (fun v => hasI (waysL n l he [v] []) v) n).length, [(16, .row .own 3 1 (nums .i64 (ringsL (fun v => hasI (waysL n l he [v] []) v) n)))]) := by
  have p1 := fun b => p59 b n l (by omega)
  have p2 := fun b v h => p58 b n l v hn hl he h
  simp only [grTV] at p1 p2
  simp [code, Try.f39, hr, p1, hg, hl]
  generalize hf : (fun v => hasI (waysL n l he [v] []) v) = f
  refine (loop_to (s0 := ?s1) (fun x => n - x.1) (fun x => [(3, .ref 18 0 x.2.length), (8, jk0 18 x.2), (11, (.pv false (.sc (.int .i64 ((x.1 : Nat))))))]) (fun x => [(16, .box [(.pv false (.sc (.int .i64 ((n : Nat))))), .pv b (.sl (eds l))]), (18, .row .own 3 1 (nums .i64 x.2))]) (fun x K => K [(3, .ref 18 0 (ringsL f n).length), (8, jk0 18 (ringsL f n)), (11, (.pv false (.sc (.int .i64 ((n : Nat))))))] [(16, .box [(.pv false (.sc (.int .i64 ((n : Nat))))), .pv b (.sl (eds l))]), (18, .row .own 3 1 (nums .i64 (ringsL f n)))]) (fun x => x.1 ≤ n ∧ Hid (x.2 = ringsL f x.1)) ((0 : Nat), ([] : List Int)) ?hc1 ?h01 ?hs1 ?step1).trans ?r1
  case hc1 => simp; rfl
  case h01 => first | (simp; done) | (simp [*]; done) | exact ⟨by simp, ⟨rfl⟩⟩ | grind | (simp; omega)
  case hs1 => first | (simp; done) | (simp [*]; done)
  case r1 => cases hk : ringsL f n <;> simp [hr, hk]
  rintro k ⟨v, out⟩ ⟨hv, ha⟩ ih
  have hlen := ringsL_len f v
  simp at hv
  rw [← ha.out] at hlen
  simp at hlen
  have g3 : (out.length + 1) * 8 ≤ Pm.roomBytes := by unfold Pm.roomBytes; omega
  have g4 : out.length + 1 ≤ 9223372036854775807 := by omega
  have hts : Hid (ringsL f (v + 1) = out ++ (bif f (v : Int) then [(v : Int)] else [])) := ⟨by have h' : out = ringsL f v := ha.out; subst h'; rfl⟩
  have hfv : f v = hasI (waysL n l he [(v : Int)] []) v := by rw [← hf]
  rcases out with _ | ⟨a0, out⟩
  all_goals simp
  all_goals simp at g3 g4
  · (first | refine ifL_cases (fun h => ?_) (fun h => ?_) | refine gI_cases' (fun h => ?_) (fun h => ?_) | refine gI_cases (fun h => ?_) (fun h => ?_) | refine dI_cases' (fun h => ?_) (fun h => ?_) | refine dI_cases (fun h => ?_) (fun h => ?_)) <;> first | replace h := of_decide_eq_true h | replace h := of_decide_eq_false h | skip
    · have hq := p2 b v (by omega)
      have c20 : v < 20 ∧ (v : Int) < 20 := by omega
      simp [*]
      (first | refine ifL_cases (fun h => ?_) (fun h => ?_) | refine gI_cases' (fun h => ?_) (fun h => ?_) | refine gI_cases (fun h => ?_) (fun h => ?_) | refine dI_cases' (fun h => ?_) (fun h => ?_) | refine dI_cases (fun h => ?_) (fun h => ?_)) <;> first | replace h := of_decide_eq_true h | replace h := of_decide_eq_false h | skip
      · simp [*]
        refine (ih.out (v + 1, [(v : Int)]) _ ?_ ?_ ?_).trans ?_
        · simp; omega
        · exact ⟨by simp; omega, ⟨by rw [hts.out]; simp [*]⟩⟩
        · simp
          try simp (disch := omega) only [wrap_id']
        · rfl
      · simp [*]
        refine (ih.out (v + 1, []) _ ?_ ?_ ?_).trans ?_
        · simp; omega
        · exact ⟨by simp; omega, ⟨by rw [hts.out]; simp [*]⟩⟩
        · simp
          try simp (disch := omega) only [wrap_id']
        · rfl
    · have e : v = n := by omega
      subst e
      simp [← ha.out]
  · (first | refine ifL_cases (fun h => ?_) (fun h => ?_) | refine gI_cases' (fun h => ?_) (fun h => ?_) | refine gI_cases (fun h => ?_) (fun h => ?_) | refine dI_cases' (fun h => ?_) (fun h => ?_) | refine dI_cases (fun h => ?_) (fun h => ?_)) <;> first | replace h := of_decide_eq_true h | replace h := of_decide_eq_false h | skip
    · have hq := p2 b v (by omega)
      have c20 : v < 20 ∧ (v : Int) < 20 := by omega
      simp [*]
      (first | refine ifL_cases (fun h => ?_) (fun h => ?_) | refine gI_cases' (fun h => ?_) (fun h => ?_) | refine gI_cases (fun h => ?_) (fun h => ?_) | refine dI_cases' (fun h => ?_) (fun h => ?_) | refine dI_cases (fun h => ?_) (fun h => ?_)) <;> first | replace h := of_decide_eq_true h | replace h := of_decide_eq_false h | skip
      · simp [*]
        refine (ih.out (v + 1, a0 :: (out ++ [(v : Int)])) _ ?_ ?_ ?_).trans ?_
        · simp; omega
        · exact ⟨by simp; omega, ⟨by rw [hts.out]; simp [*]⟩⟩
        · simp
          try simp (disch := omega) only [wrap_id']
        · rfl
      · simp [*]
        refine (ih.out (v + 1, a0 :: out) _ ?_ ?_ ?_).trans ?_
        · simp; omega
        · exact ⟨by simp; omega, ⟨by rw [hts.out]; simp [*]⟩⟩
        · simp
          try simp (disch := omega) only [wrap_id']
        · rfl
    · have e : v = n := by omega
      subst e
      simp [← ha.out]
theorem p39 (b : Bool) (n : Nat) (l : List Ed) (hn : n ≤ 20) (hl : l.length ≤ 400) (hg : gOk n l = true) (he : ∀ e ∈ l, edIn n e = true) : phi C0 (lim C0) 39 [grTV b n l] [] = some (.ref 16 0 (ringsL (fun v => hasI (waysL n l he [v] []) v) n).length, [(16, .row .own 3 1 (nums .i64 (ringsL (fun v => hasI (waysL n l he [v] []) v) n)))]) := call0 Try.func39 (by kernel_rfl) (e39 Try.f39 Try.results39 b n l hn hl hg he)
set_option maxRecDepth 100000 in
set_option maxHeartbeats 4000000 in
theorem e38_no (fn : Func) (hr : fn.results = #[.tmp 2]) (b : Bool) (n : Int) (l : List Ed) (hl : l.length ≤ 1048576) (hg : gOk n l = false) : lim C0 38 fn [.c (code Try.f38)] ⟨number [grTV b n l] 0, []⟩ = some (.pv false (.sl []), []) := by
  have p1 := p45
  simp only [grTV] at p1
  simp [code, Try.f38, hr, p1, hg, hl]
theorem p38_no (b : Bool) (n : Int) (l : List Ed) (hl : l.length ≤ 1048576) (hg : gOk n l = false) : phi C0 (lim C0) 38 [grTV b n l] [] = some (.pv false (.sl []), []) := call0 Try.func38 (by kernel_rfl) (e38_no Try.f38 Try.results38 b n l hl hg)
set_option maxRecDepth 100000 in
set_option maxHeartbeats 4000000 in
theorem e38 (fn : Func) (hr : fn.results = #[.tmp 2]) (b : Bool) (n : Nat) (l : List Ed) (hn : n ≤ 20) (hl : l.length ≤ 400) (hg : gOk n l = true) (he : gChk n none l = true) : lim C0 38 fn [.c (code Try.f38)] ⟨number [grTV b n l] 0, []⟩ = some (.pv false (.sl (nums .i64 (ringsL (fun v => hasI (rnds l n (marks (nexts v l) [])) v) n))), []) := by
  have p1 := fun b => p45 b n l (by omega)
  have p2 := fun b b' f h2 h3 => p69 b b' n l f hn hl he h2 h3
  have hal : ∀ e ∈ l, edIn n e = true := fun e h => gChk_in he e h
  simp only [grTV] at p1 p2
  simp [code, Try.f38, hr, p1, hg, hl]
  generalize hf : (fun v => hasI (rnds l n (marks (nexts v l) [])) v) = f
  refine (loop_to (s0 := ?s2) (fun x => n - x.1) (fun x => [(3, slT 18 x.2), (4, (.pv false (.sc (.int .i64 ((x.1 : Nat))))))]) (fun x => [(16, .box [(.pv false (.sc (.int .i64 ((n : Nat))))), .pv b (.sl (eds l))])] ++ slH 18 3 1 (numP .i64) x.2) (fun x K => K [(3, slT 18 (ringsL f n)), (4, (.pv false (.sc (.int .i64 ((n : Nat))))))] ([(16, .box [(.pv false (.sc (.int .i64 ((n : Nat))))), .pv b (.sl (eds l))])] ++ slH 18 3 1 (numP .i64) (ringsL f n))) (fun x => x.1 ≤ n ∧ Hid (x.2 = ringsL f x.1)) ((0 : Nat), ([] : List Int)) ?hc2 ?h02 ?hs2 ?step2).trans ?r2
  case hc2 => simp; rfl
  case h02 => first | (simp; done) | (simp [*]; done) | exact ⟨by simp, ⟨rfl⟩⟩ | grind | (simp; omega)
  case hs2 => first | (simp; done) | (simp [*]; done)
  case r2 => cases hk : ringsL f n <;> simp [hr, hk]
  rintro k ⟨v, out⟩ ⟨hv, ha⟩ ih
  have hlen := ringsL_len f v
  simp at hv
  rw [← ha.out] at hlen
  simp at hlen
  have g3 : (out.length + 1) * 8 ≤ Pm.roomBytes := by unfold Pm.roomBytes; omega
  have g4 : out.length + 1 ≤ 9223372036854775807 := by omega
  have hts : Hid (ringsL f (v + 1) = out ++ (bif f (v : Int) then [(v : Int)] else [])) := ⟨by have h' : out = ringsL f v := ha.out; subst h'; rfl⟩
  have hfv : f v = hasI (rnds l n (marks (nexts v l) [])) v := by rw [← hf]
  rcases out with _ | ⟨a0, out⟩
  all_goals simp
  all_goals simp at g3 g4
  · (first | refine ifL_cases (fun h => ?_) (fun h => ?_) | refine gI_cases' (fun h => ?_) (fun h => ?_) | refine gI_cases (fun h => ?_) (fun h => ?_) | refine dI_cases' (fun h => ?_) (fun h => ?_) | refine dI_cases (fun h => ?_) (fun h => ?_)) <;> first | replace h := of_decide_eq_true h | replace h := of_decide_eq_false h | skip
    · simp [*]
      refine (loop_to (s0 := ?s3) (fun x => l.length - x.1) (fun x => [(5, slT 18 x.2), (6, (.pv false (.sc (.int .i64 ((x.1 : Nat))))))]) (fun x => [(16, .box [(.pv false (.sc (.int .i64 ((n : Nat))))), .pv b (.sl (eds l))])] ++ slH 18 3 1 (numP .i64) x.2) (fun x K => K [(5, slT 18 (nexts v l)), (6, (.pv false (.sc (.int .i64 l.length))))] ([(16, .box [(.pv false (.sc (.int .i64 ((n : Nat))))), .pv b (.sl (eds l))])] ++ slH 18 3 1 (numP .i64) (nexts v l))) (fun x => x.1 ≤ l.length ∧ Hid (x.2 = nexts v (l.take x.1))) ((0 : Nat), ([] : List Int)) ?hc3 ?h03 ?hs3 ?step3).trans ?r3
      case hc3 => simp; rfl
      case h03 => first | (simp; done) | (simp [*]; done) | exact ⟨by simp, ⟨rfl⟩⟩ | grind | (simp; omega)
      case hs3 => first | (simp; done) | (simp [*]; done)
      case r3 =>
        have hS : timesI v (told (rnds l n (marks (nexts v l) [])) n) = bif f v then 1 else 0 := by rw [timesI_told, hfv]; simp [h]
        have hnl := nexts_len v l
        have hL := told_len (rnds l n (marks (nexts v l) [])) n
        have hq := fun b b' => p2 b b' (nexts v l) (by omega) (nexts_in v hal)
        clear hfv
        generalize told (rnds l n (marks (nexts v l) [])) n = L at *
        generalize nexts v l = nx at *
        have hw : repI ([] : List Int) (timesI v L) (v : Int) = ringsL f (v + 1) := by rw [hts.out, hS]; cases f v <;> simp [repI]
        clear hts
        generalize hwe : ringsL f (v + 1) = w at hw
        rcases nx with _ | ⟨y0, nx⟩
        all_goals first | simp only [show nums .i64 [] = [] from rfl] at hq | skip
        all_goals simp [hq]
        · refine (loop_to (s0 := ?s4) (fun x => L.length - x.1) (fun x => [(3, slT 18 x.2), (8, (.pv false (.sc (.int .i64 ((x.1 : Nat))))))]) (fun x => [(16, .box [(.pv false (.sc (.int .i64 ((n : Nat))))), .pv b (.sl (eds l))])] ++ slH 18 3 1 (numP .i64) x.2) (fun x K => K [(3, slT 18 w), (8, (.pv false (.sc (.int .i64 L.length))))] ([(16, .box [(.pv false (.sc (.int .i64 ((n : Nat))))), .pv b (.sl (eds l))])] ++ slH 18 3 1 (numP .i64) w)) (fun x => x.1 ≤ L.length ∧ Hid (x.2 = repI ([] : List Int) (timesI v (L.take x.1)) (v : Int))) ((0 : Nat), ([] : List Int)) ?hc4 ?h04 ?hs4 ?step4).trans ?r4
          case hc4 => simp; rfl
          case h04 => first | (simp; done) | (simp [*]; done) | exact ⟨by simp, ⟨rfl⟩⟩ | grind | (simp; omega)
          case hs4 => first | (simp; done) | (simp [*]; done)
          case r4 =>
            rcases w with _ | ⟨w0, w⟩
            all_goals simp
            all_goals try simp (disch := omega) only [wrap_id']
            · refine (ih.out (v + 1, []) _ ?_ ?_ ?_).trans ?_
              · simp; omega
              · exact ⟨by simp; omega, ⟨hwe.symm⟩⟩
              · simp
              · rfl
            · refine (ih.out (v + 1, w0 :: w) _ ?_ ?_ ?_).trans ?_
              · simp; omega
              · exact ⟨by simp; omega, ⟨hwe.symm⟩⟩
              · simp
              · rfl
          clear ih
          rintro k ⟨i, o⟩ ⟨hi, ho⟩ ih
          have hend : i = L.length → o = w := by rintro rfl; have h2 := ho.out; simp only [List.take_length] at h2; exact h2.trans hw
          have hol := timesI_len v (L.take i)
          have hol2 := congrArg List.length ho.out
          simp at hi hol hol2
          have g5 : (o.length + 1) * 8 ≤ Pm.roomBytes := by unfold Pm.roomBytes; simp at hlen; omega
          have g6 : o.length + 1 ≤ 9223372036854775807 := by simp at hlen; omega
          have hn := fun h => (⟨rep_take (i := i) h ho.out⟩ : Hid _)
          clear hol hol2
          rcases o with _ | ⟨b0, o⟩
          all_goals simp
          all_goals simp at g5 g6
          · (first | refine ifL_cases (fun h => ?_) (fun h => ?_) | refine gI_cases' (fun h => ?_) (fun h => ?_) | refine gI_cases (fun h => ?_) (fun h => ?_) | refine dI_cases' (fun h => ?_) (fun h => ?_) | refine dI_cases (fun h => ?_) (fun h => ?_)) <;> first | replace h := of_decide_eq_true h | replace h := of_decide_eq_false h | skip
            · have hn' := hn h
              simp [*]
              (first | refine ifL_cases (fun h => ?_) (fun h => ?_) | refine gI_cases' (fun h => ?_) (fun h => ?_) | refine gI_cases (fun h => ?_) (fun h => ?_) | refine dI_cases' (fun h => ?_) (fun h => ?_) | refine dI_cases (fun h => ?_) (fun h => ?_)) <;> first | replace h := of_decide_eq_true h | replace h := of_decide_eq_false h | skip
              · simp [*]
                refine (ih.out (i + 1, [(v : Int)]) _ ?_ ?_ ?_).trans ?_
                · simp; omega
                · exact ⟨by simp; omega, ⟨by rw [hn'.out]; simp [*]⟩⟩
                · simp
                  try simp (disch := omega) only [wrap_id']
                · rfl
              · simp [*]
                refine (ih.out (i + 1, []) _ ?_ ?_ ?_).trans ?_
                · simp; omega
                · exact ⟨by simp; omega, ⟨by rw [hn'.out]; simp [*]⟩⟩
                · simp
                  try simp (disch := omega) only [wrap_id']
                · rfl
            · have e : i = L.length := by omega
              have e2 := hend e
              subst e e2
              simp
          · (first | refine ifL_cases (fun h => ?_) (fun h => ?_) | refine gI_cases' (fun h => ?_) (fun h => ?_) | refine gI_cases (fun h => ?_) (fun h => ?_) | refine dI_cases' (fun h => ?_) (fun h => ?_) | refine dI_cases (fun h => ?_) (fun h => ?_)) <;> first | replace h := of_decide_eq_true h | replace h := of_decide_eq_false h | skip
            · have hn' := hn h
              simp [*]
              (first | refine ifL_cases (fun h => ?_) (fun h => ?_) | refine gI_cases' (fun h => ?_) (fun h => ?_) | refine gI_cases (fun h => ?_) (fun h => ?_) | refine dI_cases' (fun h => ?_) (fun h => ?_) | refine dI_cases (fun h => ?_) (fun h => ?_)) <;> first | replace h := of_decide_eq_true h | replace h := of_decide_eq_false h | skip
              · simp [*]
                refine (ih.out (i + 1, b0 :: (o ++ [(v : Int)])) _ ?_ ?_ ?_).trans ?_
                · simp; omega
                · exact ⟨by simp; omega, ⟨by rw [hn'.out]; simp [*]⟩⟩
                · simp
                  try simp (disch := omega) only [wrap_id']
                · rfl
              · simp [*]
                refine (ih.out (i + 1, b0 :: o) _ ?_ ?_ ?_).trans ?_
                · simp; omega
                · exact ⟨by simp; omega, ⟨by rw [hn'.out]; simp [*]⟩⟩
                · simp
                  try simp (disch := omega) only [wrap_id']
                · rfl
            · have e : i = L.length := by omega
              have e2 := hend e
              subst e e2
              simp
        · refine (loop_to (s0 := ?s5) (fun x => L.length - x.1) (fun x => [(3, slT 18 x.2), (8, (.pv false (.sc (.int .i64 ((x.1 : Nat)))))), (5, .ref (po x.2) 0 (nx.length + 1)), (43, .ref (po x.2) 0 (nx.length + 1))]) (fun x => [(16, .box [(.pv false (.sc (.int .i64 ((n : Nat))))), .pv b (.sl (eds l))])] ++ slH 18 3 1 (numP .i64) x.2 ++ [(po x.2, .row .own 3 1 (rws (numP .i64) (y0 :: nx)))]) (fun x K => K [(3, slT 18 w), (8, (.pv false (.sc (.int .i64 L.length)))), (5, .ref (po w) 0 (nx.length + 1)), (43, .ref (po w) 0 (nx.length + 1))] ([(16, .box [(.pv false (.sc (.int .i64 ((n : Nat))))), .pv b (.sl (eds l))])] ++ slH 18 3 1 (numP .i64) w ++ [(po w, .row .own 3 1 (rws (numP .i64) (y0 :: nx)))])) (fun x => x.1 ≤ L.length ∧ Hid (x.2 = repI ([] : List Int) (timesI v (L.take x.1)) (v : Int))) ((0 : Nat), ([] : List Int)) ?hc5 ?h05 ?hs5 ?step5).trans ?r5
          case hc5 => simp; rfl
          case h05 => first | (simp; done) | (simp [*]; done) | exact ⟨by simp, ⟨rfl⟩⟩ | grind | (simp; omega)
          case hs5 => first | (simp; done) | (simp [*]; done)
          case r5 =>
            rcases w with _ | ⟨w0, w⟩
            all_goals simp
            all_goals try simp (disch := omega) only [wrap_id']
            · refine (ih.out (v + 1, []) _ ?_ ?_ ?_).trans ?_
              · simp; omega
              · exact ⟨by simp; omega, ⟨hwe.symm⟩⟩
              · simp
              · rfl
            · refine (ih.out (v + 1, w0 :: w) _ ?_ ?_ ?_).trans ?_
              · simp; omega
              · exact ⟨by simp; omega, ⟨hwe.symm⟩⟩
              · simp
              · rfl
          clear ih
          rintro k ⟨i, o⟩ ⟨hi, ho⟩ ih
          have hend : i = L.length → o = w := by rintro rfl; have h2 := ho.out; simp only [List.take_length] at h2; exact h2.trans hw
          have hol := timesI_len v (L.take i)
          have hol2 := congrArg List.length ho.out
          simp at hi hol hol2
          have g5 : (o.length + 1) * 8 ≤ Pm.roomBytes := by unfold Pm.roomBytes; simp at hlen; omega
          have g6 : o.length + 1 ≤ 9223372036854775807 := by simp at hlen; omega
          have hn := fun h => (⟨rep_take (i := i) h ho.out⟩ : Hid _)
          clear hol hol2
          rcases o with _ | ⟨b0, o⟩
          all_goals simp
          all_goals simp at g5 g6
          · (first | refine ifL_cases (fun h => ?_) (fun h => ?_) | refine gI_cases' (fun h => ?_) (fun h => ?_) | refine gI_cases (fun h => ?_) (fun h => ?_) | refine dI_cases' (fun h => ?_) (fun h => ?_) | refine dI_cases (fun h => ?_) (fun h => ?_)) <;> first | replace h := of_decide_eq_true h | replace h := of_decide_eq_false h | skip
            · have hn' := hn h
              simp [*]
              (first | refine ifL_cases (fun h => ?_) (fun h => ?_) | refine gI_cases' (fun h => ?_) (fun h => ?_) | refine gI_cases (fun h => ?_) (fun h => ?_) | refine dI_cases' (fun h => ?_) (fun h => ?_) | refine dI_cases (fun h => ?_) (fun h => ?_)) <;> first | replace h := of_decide_eq_true h | replace h := of_decide_eq_false h | skip
              · simp [*]
                refine (ih.out (i + 1, [(v : Int)]) _ ?_ ?_ ?_).trans ?_
                · simp; omega
                · exact ⟨by simp; omega, ⟨by rw [hn'.out]; simp [*]⟩⟩
                · simp
                  try simp (disch := omega) only [wrap_id']
                · rfl
              · simp [*]
                refine (ih.out (i + 1, []) _ ?_ ?_ ?_).trans ?_
                · simp; omega
                · exact ⟨by simp; omega, ⟨by rw [hn'.out]; simp [*]⟩⟩
                · simp
                  try simp (disch := omega) only [wrap_id']
                · rfl
            · have e : i = L.length := by omega
              have e2 := hend e
              subst e e2
              simp
          · (first | refine ifL_cases (fun h => ?_) (fun h => ?_) | refine gI_cases' (fun h => ?_) (fun h => ?_) | refine gI_cases (fun h => ?_) (fun h => ?_) | refine dI_cases' (fun h => ?_) (fun h => ?_) | refine dI_cases (fun h => ?_) (fun h => ?_)) <;> first | replace h := of_decide_eq_true h | replace h := of_decide_eq_false h | skip
            · have hn' := hn h
              simp [*]
              (first | refine ifL_cases (fun h => ?_) (fun h => ?_) | refine gI_cases' (fun h => ?_) (fun h => ?_) | refine gI_cases (fun h => ?_) (fun h => ?_) | refine dI_cases' (fun h => ?_) (fun h => ?_) | refine dI_cases (fun h => ?_) (fun h => ?_)) <;> first | replace h := of_decide_eq_true h | replace h := of_decide_eq_false h | skip
              · simp [*]
                refine (ih.out (i + 1, b0 :: (o ++ [(v : Int)])) _ ?_ ?_ ?_).trans ?_
                · simp; omega
                · exact ⟨by simp; omega, ⟨by rw [hn'.out]; simp [*]⟩⟩
                · simp
                  try simp (disch := omega) only [wrap_id']
                · rfl
              · simp [*]
                refine (ih.out (i + 1, b0 :: o) _ ?_ ?_ ?_).trans ?_
                · simp; omega
                · exact ⟨by simp; omega, ⟨by rw [hn'.out]; simp [*]⟩⟩
                · simp
                  try simp (disch := omega) only [wrap_id']
                · rfl
            · have e : i = L.length := by omega
              have e2 := hend e
              subst e e2
              simp
      clear ih
      rintro k ⟨i, nx⟩ ⟨hi, hx⟩ ih
      have hxl := nexts_len v (l.take i)
      rw [← hx.out] at hxl
      simp at hi hxl
      have g5 : (nx.length + 1) * 8 ≤ Pm.roomBytes := by unfold Pm.roomBytes; omega
      have g6 : nx.length + 1 ≤ 9223372036854775807 := by omega
      rcases nx with _ | ⟨y0, nx⟩
      all_goals simp
      all_goals simp at g5 g6
      · (first | refine ifL_cases (fun h => ?_) (fun h => ?_) | refine gI_cases' (fun h => ?_) (fun h => ?_) | refine gI_cases (fun h => ?_) (fun h => ?_) | refine dI_cases' (fun h => ?_) (fun h => ?_) | refine dI_cases (fun h => ?_) (fun h => ?_)) <;> first | replace h := of_decide_eq_true h | replace h := of_decide_eq_false h | skip
        · have hts : Hid (nexts v (l.take (i + 1)) = _) := ⟨nexts_take (a := v) h⟩
          rw [← hx.out] at hts
          simp [*]
          (first | refine ifL_cases (fun h => ?_) (fun h => ?_) | refine gI_cases' (fun h => ?_) (fun h => ?_) | refine gI_cases (fun h => ?_) (fun h => ?_) | refine dI_cases' (fun h => ?_) (fun h => ?_) | refine dI_cases (fun h => ?_) (fun h => ?_)) <;> first | replace h := of_decide_eq_true h | replace h := of_decide_eq_false h | skip
          · simp [*]
            refine (ih.out (i + 1, [l[i].2]) _ ?_ ?_ ?_).trans ?_
            · simp; omega
            · exact ⟨by simp; omega, ⟨by rw [hts.out]; simp [*]⟩⟩
            · simp
              try simp (disch := omega) only [wrap_id']
            · rfl
          · simp [*]
            refine (ih.out (i + 1, []) _ ?_ ?_ ?_).trans ?_
            · simp; omega
            · exact ⟨by simp; omega, ⟨by rw [hts.out]; simp [*]⟩⟩
            · simp
              try simp (disch := omega) only [wrap_id']
            · rfl
        · have e : i = l.length := by omega
          subst e
          have hx2 := hx.out
          simp at hx2
          simp [hx2]
      · (first | refine ifL_cases (fun h => ?_) (fun h => ?_) | refine gI_cases' (fun h => ?_) (fun h => ?_) | refine gI_cases (fun h => ?_) (fun h => ?_) | refine dI_cases' (fun h => ?_) (fun h => ?_) | refine dI_cases (fun h => ?_) (fun h => ?_)) <;> first | replace h := of_decide_eq_true h | replace h := of_decide_eq_false h | skip
        · have hts : Hid (nexts v (l.take (i + 1)) = _) := ⟨nexts_take (a := v) h⟩
          rw [← hx.out] at hts
          simp [*]
          (first | refine ifL_cases (fun h => ?_) (fun h => ?_) | refine gI_cases' (fun h => ?_) (fun h => ?_) | refine gI_cases (fun h => ?_) (fun h => ?_) | refine dI_cases' (fun h => ?_) (fun h => ?_) | refine dI_cases (fun h => ?_) (fun h => ?_)) <;> first | replace h := of_decide_eq_true h | replace h := of_decide_eq_false h | skip
          · simp [*]
            refine (ih.out (i + 1, y0 :: (nx ++ [l[i].2])) _ ?_ ?_ ?_).trans ?_
            · simp; omega
            · exact ⟨by simp; omega, ⟨by rw [hts.out]; simp [*]⟩⟩
            · simp
              try simp (disch := omega) only [wrap_id']
            · rfl
          · simp [*]
            refine (ih.out (i + 1, y0 :: nx) _ ?_ ?_ ?_).trans ?_
            · simp; omega
            · exact ⟨by simp; omega, ⟨by rw [hts.out]; simp [*]⟩⟩
            · simp
              try simp (disch := omega) only [wrap_id']
            · rfl
        · have e : i = l.length := by omega
          subst e
          have hx2 := hx.out
          simp at hx2
          simp [← hx2]
    · have e : v = n := by omega
      subst e
      simp [← ha.out]
  · (first | refine ifL_cases (fun h => ?_) (fun h => ?_) | refine gI_cases' (fun h => ?_) (fun h => ?_) | refine gI_cases (fun h => ?_) (fun h => ?_) | refine dI_cases' (fun h => ?_) (fun h => ?_) | refine dI_cases (fun h => ?_) (fun h => ?_)) <;> first | replace h := of_decide_eq_true h | replace h := of_decide_eq_false h | skip
    · simp [*]
      refine (loop_to (s0 := ?s6) (fun x => l.length - x.1) (fun x => [(5, slT 20 x.2), (6, (.pv false (.sc (.int .i64 ((x.1 : Nat))))))]) (fun x => [(16, .box [(.pv false (.sc (.int .i64 ((n : Nat))))), .pv b (.sl (eds l))]), (18, .row .own 3 1 (rws (numP .i64) (a0 :: out)))] ++ slH 20 3 1 (numP .i64) x.2) (fun x K => K [(5, slT 20 (nexts v l)), (6, (.pv false (.sc (.int .i64 l.length))))] ([(16, .box [(.pv false (.sc (.int .i64 ((n : Nat))))), .pv b (.sl (eds l))]), (18, .row .own 3 1 (rws (numP .i64) (a0 :: out)))] ++ slH 20 3 1 (numP .i64) (nexts v l))) (fun x => x.1 ≤ l.length ∧ Hid (x.2 = nexts v (l.take x.1))) ((0 : Nat), ([] : List Int)) ?hc6 ?h06 ?hs6 ?step6).trans ?r6
      case hc6 => simp; rfl
      case h06 => first | (simp; done) | (simp [*]; done) | exact ⟨by simp, ⟨rfl⟩⟩ | grind | (simp; omega)
      case hs6 => first | (simp; done) | (simp [*]; done)
      case r6 =>
        have hS : timesI v (told (rnds l n (marks (nexts v l) [])) n) = bif f v then 1 else 0 := by rw [timesI_told, hfv]; simp [h]
        have hnl := nexts_len v l
        have hL := told_len (rnds l n (marks (nexts v l) [])) n
        have hq := fun b b' => p2 b b' (nexts v l) (by omega) (nexts_in v hal)
        clear hfv
        generalize told (rnds l n (marks (nexts v l) [])) n = L at *
        generalize nexts v l = nx at *
        have hw : repI (a0 :: out) (timesI v L) (v : Int) = ringsL f (v + 1) := by rw [hts.out, hS]; cases f v <;> simp [repI]
        clear hts
        generalize hwe : ringsL f (v + 1) = w at hw
        rcases nx with _ | ⟨y0, nx⟩
        all_goals first | simp only [show nums .i64 [] = [] from rfl] at hq | skip
        all_goals simp [hq]
        · refine (loop_to (s0 := ?s7) (fun x => L.length - x.1) (fun x => [(3, slT 18 x.2), (8, (.pv false (.sc (.int .i64 ((x.1 : Nat))))))]) (fun x => [(16, .box [(.pv false (.sc (.int .i64 ((n : Nat))))), .pv b (.sl (eds l))])] ++ slH 18 3 1 (numP .i64) x.2) (fun x K => K [(3, slT 18 w), (8, (.pv false (.sc (.int .i64 L.length))))] ([(16, .box [(.pv false (.sc (.int .i64 ((n : Nat))))), .pv b (.sl (eds l))])] ++ slH 18 3 1 (numP .i64) w)) (fun x => x.1 ≤ L.length ∧ Hid (x.2 = repI (a0 :: out) (timesI v (L.take x.1)) (v : Int))) ((0 : Nat), (a0 :: out)) ?hc7 ?h07 ?hs7 ?step7).trans ?r7
          case hc7 => simp; rfl
          case h07 => first | (simp; done) | (simp [*]; done) | exact ⟨by simp, ⟨rfl⟩⟩ | grind | (simp; omega)
          case hs7 => first | (simp; done) | (simp [*]; done)
          case r7 =>
            rcases w with _ | ⟨w0, w⟩
            all_goals simp
            all_goals try simp (disch := omega) only [wrap_id']
            · refine (ih.out (v + 1, []) _ ?_ ?_ ?_).trans ?_
              · simp; omega
              · exact ⟨by simp; omega, ⟨hwe.symm⟩⟩
              · simp
              · rfl
            · refine (ih.out (v + 1, w0 :: w) _ ?_ ?_ ?_).trans ?_
              · simp; omega
              · exact ⟨by simp; omega, ⟨hwe.symm⟩⟩
              · simp
              · rfl
          clear ih
          rintro k ⟨i, o⟩ ⟨hi, ho⟩ ih
          have hend : i = L.length → o = w := by rintro rfl; have h2 := ho.out; simp only [List.take_length] at h2; exact h2.trans hw
          have hol := timesI_len v (L.take i)
          have hol2 := congrArg List.length ho.out
          simp at hi hol hol2
          have g5 : (o.length + 1) * 8 ≤ Pm.roomBytes := by unfold Pm.roomBytes; simp at hlen; omega
          have g6 : o.length + 1 ≤ 9223372036854775807 := by simp at hlen; omega
          have hn := fun h => (⟨rep_take (i := i) h ho.out⟩ : Hid _)
          clear hol hol2
          rcases o with _ | ⟨b0, o⟩
          all_goals simp
          all_goals simp at g5 g6
          · (first | refine ifL_cases (fun h => ?_) (fun h => ?_) | refine gI_cases' (fun h => ?_) (fun h => ?_) | refine gI_cases (fun h => ?_) (fun h => ?_) | refine dI_cases' (fun h => ?_) (fun h => ?_) | refine dI_cases (fun h => ?_) (fun h => ?_)) <;> first | replace h := of_decide_eq_true h | replace h := of_decide_eq_false h | skip
            · have hn' := hn h
              simp [*]
              (first | refine ifL_cases (fun h => ?_) (fun h => ?_) | refine gI_cases' (fun h => ?_) (fun h => ?_) | refine gI_cases (fun h => ?_) (fun h => ?_) | refine dI_cases' (fun h => ?_) (fun h => ?_) | refine dI_cases (fun h => ?_) (fun h => ?_)) <;> first | replace h := of_decide_eq_true h | replace h := of_decide_eq_false h | skip
              · simp [*]
                refine (ih.out (i + 1, [(v : Int)]) _ ?_ ?_ ?_).trans ?_
                · simp; omega
                · exact ⟨by simp; omega, ⟨by rw [hn'.out]; simp [*]⟩⟩
                · simp
                  try simp (disch := omega) only [wrap_id']
                · rfl
              · simp [*]
                refine (ih.out (i + 1, []) _ ?_ ?_ ?_).trans ?_
                · simp; omega
                · exact ⟨by simp; omega, ⟨by rw [hn'.out]; simp [*]⟩⟩
                · simp
                  try simp (disch := omega) only [wrap_id']
                · rfl
            · have e : i = L.length := by omega
              have e2 := hend e
              subst e e2
              simp
          · (first | refine ifL_cases (fun h => ?_) (fun h => ?_) | refine gI_cases' (fun h => ?_) (fun h => ?_) | refine gI_cases (fun h => ?_) (fun h => ?_) | refine dI_cases' (fun h => ?_) (fun h => ?_) | refine dI_cases (fun h => ?_) (fun h => ?_)) <;> first | replace h := of_decide_eq_true h | replace h := of_decide_eq_false h | skip
            · have hn' := hn h
              simp [*]
              (first | refine ifL_cases (fun h => ?_) (fun h => ?_) | refine gI_cases' (fun h => ?_) (fun h => ?_) | refine gI_cases (fun h => ?_) (fun h => ?_) | refine dI_cases' (fun h => ?_) (fun h => ?_) | refine dI_cases (fun h => ?_) (fun h => ?_)) <;> first | replace h := of_decide_eq_true h | replace h := of_decide_eq_false h | skip
              · simp [*]
                refine (ih.out (i + 1, b0 :: (o ++ [(v : Int)])) _ ?_ ?_ ?_).trans ?_
                · simp; omega
                · exact ⟨by simp; omega, ⟨by rw [hn'.out]; simp [*]⟩⟩
                · simp
                  try simp (disch := omega) only [wrap_id']
                · rfl
              · simp [*]
                refine (ih.out (i + 1, b0 :: o) _ ?_ ?_ ?_).trans ?_
                · simp; omega
                · exact ⟨by simp; omega, ⟨by rw [hn'.out]; simp [*]⟩⟩
                · simp
                  try simp (disch := omega) only [wrap_id']
                · rfl
            · have e : i = L.length := by omega
              have e2 := hend e
              subst e e2
              simp
        · refine (loop_to (s0 := ?s8) (fun x => L.length - x.1) (fun x => [(3, slT 18 x.2), (8, (.pv false (.sc (.int .i64 ((x.1 : Nat)))))), (5, .ref (po x.2) 0 (nx.length + 1)), (43, .ref (po x.2) 0 (nx.length + 1))]) (fun x => [(16, .box [(.pv false (.sc (.int .i64 ((n : Nat))))), .pv b (.sl (eds l))])] ++ slH 18 3 1 (numP .i64) x.2 ++ [(po x.2, .row .own 3 1 (rws (numP .i64) (y0 :: nx)))]) (fun x K => K [(3, slT 18 w), (8, (.pv false (.sc (.int .i64 L.length)))), (5, .ref (po w) 0 (nx.length + 1)), (43, .ref (po w) 0 (nx.length + 1))] ([(16, .box [(.pv false (.sc (.int .i64 ((n : Nat))))), .pv b (.sl (eds l))])] ++ slH 18 3 1 (numP .i64) w ++ [(po w, .row .own 3 1 (rws (numP .i64) (y0 :: nx)))])) (fun x => x.1 ≤ L.length ∧ Hid (x.2 = repI (a0 :: out) (timesI v (L.take x.1)) (v : Int))) ((0 : Nat), (a0 :: out)) ?hc8 ?h08 ?hs8 ?step8).trans ?r8
          case hc8 => simp; rfl
          case h08 => first | (simp; done) | (simp [*]; done) | exact ⟨by simp, ⟨rfl⟩⟩ | grind | (simp; omega)
          case hs8 => first | (simp; done) | (simp [*]; done)
          case r8 =>
            rcases w with _ | ⟨w0, w⟩
            all_goals simp
            all_goals try simp (disch := omega) only [wrap_id']
            · refine (ih.out (v + 1, []) _ ?_ ?_ ?_).trans ?_
              · simp; omega
              · exact ⟨by simp; omega, ⟨hwe.symm⟩⟩
              · simp
              · rfl
            · refine (ih.out (v + 1, w0 :: w) _ ?_ ?_ ?_).trans ?_
              · simp; omega
              · exact ⟨by simp; omega, ⟨hwe.symm⟩⟩
              · simp
              · rfl
          clear ih
          rintro k ⟨i, o⟩ ⟨hi, ho⟩ ih
          have hend : i = L.length → o = w := by rintro rfl; have h2 := ho.out; simp only [List.take_length] at h2; exact h2.trans hw
          have hol := timesI_len v (L.take i)
          have hol2 := congrArg List.length ho.out
          simp at hi hol hol2
          have g5 : (o.length + 1) * 8 ≤ Pm.roomBytes := by unfold Pm.roomBytes; simp at hlen; omega
          have g6 : o.length + 1 ≤ 9223372036854775807 := by simp at hlen; omega
          have hn := fun h => (⟨rep_take (i := i) h ho.out⟩ : Hid _)
          clear hol hol2
          rcases o with _ | ⟨b0, o⟩
          all_goals simp
          all_goals simp at g5 g6
          · (first | refine ifL_cases (fun h => ?_) (fun h => ?_) | refine gI_cases' (fun h => ?_) (fun h => ?_) | refine gI_cases (fun h => ?_) (fun h => ?_) | refine dI_cases' (fun h => ?_) (fun h => ?_) | refine dI_cases (fun h => ?_) (fun h => ?_)) <;> first | replace h := of_decide_eq_true h | replace h := of_decide_eq_false h | skip
            · have hn' := hn h
              simp [*]
              (first | refine ifL_cases (fun h => ?_) (fun h => ?_) | refine gI_cases' (fun h => ?_) (fun h => ?_) | refine gI_cases (fun h => ?_) (fun h => ?_) | refine dI_cases' (fun h => ?_) (fun h => ?_) | refine dI_cases (fun h => ?_) (fun h => ?_)) <;> first | replace h := of_decide_eq_true h | replace h := of_decide_eq_false h | skip
              · simp [*]
                refine (ih.out (i + 1, [(v : Int)]) _ ?_ ?_ ?_).trans ?_
                · simp; omega
                · exact ⟨by simp; omega, ⟨by rw [hn'.out]; simp [*]⟩⟩
                · simp
                  try simp (disch := omega) only [wrap_id']
                · rfl
              · simp [*]
                refine (ih.out (i + 1, []) _ ?_ ?_ ?_).trans ?_
                · simp; omega
                · exact ⟨by simp; omega, ⟨by rw [hn'.out]; simp [*]⟩⟩
                · simp
                  try simp (disch := omega) only [wrap_id']
                · rfl
            · have e : i = L.length := by omega
              have e2 := hend e
              subst e e2
              simp
          · (first | refine ifL_cases (fun h => ?_) (fun h => ?_) | refine gI_cases' (fun h => ?_) (fun h => ?_) | refine gI_cases (fun h => ?_) (fun h => ?_) | refine dI_cases' (fun h => ?_) (fun h => ?_) | refine dI_cases (fun h => ?_) (fun h => ?_)) <;> first | replace h := of_decide_eq_true h | replace h := of_decide_eq_false h | skip
            · have hn' := hn h
              simp [*]
              (first | refine ifL_cases (fun h => ?_) (fun h => ?_) | refine gI_cases' (fun h => ?_) (fun h => ?_) | refine gI_cases (fun h => ?_) (fun h => ?_) | refine dI_cases' (fun h => ?_) (fun h => ?_) | refine dI_cases (fun h => ?_) (fun h => ?_)) <;> first | replace h := of_decide_eq_true h | replace h := of_decide_eq_false h | skip
              · simp [*]
                refine (ih.out (i + 1, b0 :: (o ++ [(v : Int)])) _ ?_ ?_ ?_).trans ?_
                · simp; omega
                · exact ⟨by simp; omega, ⟨by rw [hn'.out]; simp [*]⟩⟩
                · simp
                  try simp (disch := omega) only [wrap_id']
                · rfl
              · simp [*]
                refine (ih.out (i + 1, b0 :: o) _ ?_ ?_ ?_).trans ?_
                · simp; omega
                · exact ⟨by simp; omega, ⟨by rw [hn'.out]; simp [*]⟩⟩
                · simp
                  try simp (disch := omega) only [wrap_id']
                · rfl
            · have e : i = L.length := by omega
              have e2 := hend e
              subst e e2
              simp
      clear ih
      rintro k ⟨i, nx⟩ ⟨hi, hx⟩ ih
      have hxl := nexts_len v (l.take i)
      rw [← hx.out] at hxl
      simp at hi hxl
      have g5 : (nx.length + 1) * 8 ≤ Pm.roomBytes := by unfold Pm.roomBytes; omega
      have g6 : nx.length + 1 ≤ 9223372036854775807 := by omega
      rcases nx with _ | ⟨y0, nx⟩
      all_goals simp
      all_goals simp at g5 g6
      · (first | refine ifL_cases (fun h => ?_) (fun h => ?_) | refine gI_cases' (fun h => ?_) (fun h => ?_) | refine gI_cases (fun h => ?_) (fun h => ?_) | refine dI_cases' (fun h => ?_) (fun h => ?_) | refine dI_cases (fun h => ?_) (fun h => ?_)) <;> first | replace h := of_decide_eq_true h | replace h := of_decide_eq_false h | skip
        · have hts : Hid (nexts v (l.take (i + 1)) = _) := ⟨nexts_take (a := v) h⟩
          rw [← hx.out] at hts
          simp [*]
          (first | refine ifL_cases (fun h => ?_) (fun h => ?_) | refine gI_cases' (fun h => ?_) (fun h => ?_) | refine gI_cases (fun h => ?_) (fun h => ?_) | refine dI_cases' (fun h => ?_) (fun h => ?_) | refine dI_cases (fun h => ?_) (fun h => ?_)) <;> first | replace h := of_decide_eq_true h | replace h := of_decide_eq_false h | skip
          · simp [*]
            refine (ih.out (i + 1, [l[i].2]) _ ?_ ?_ ?_).trans ?_
            · simp; omega
            · exact ⟨by simp; omega, ⟨by rw [hts.out]; simp [*]⟩⟩
            · simp
              try simp (disch := omega) only [wrap_id']
            · rfl
          · simp [*]
            refine (ih.out (i + 1, []) _ ?_ ?_ ?_).trans ?_
            · simp; omega
            · exact ⟨by simp; omega, ⟨by rw [hts.out]; simp [*]⟩⟩
            · simp
              try simp (disch := omega) only [wrap_id']
            · rfl
        · have e : i = l.length := by omega
          subst e
          have hx2 := hx.out
          simp at hx2
          simp [hx2]
      · (first | refine ifL_cases (fun h => ?_) (fun h => ?_) | refine gI_cases' (fun h => ?_) (fun h => ?_) | refine gI_cases (fun h => ?_) (fun h => ?_) | refine dI_cases' (fun h => ?_) (fun h => ?_) | refine dI_cases (fun h => ?_) (fun h => ?_)) <;> first | replace h := of_decide_eq_true h | replace h := of_decide_eq_false h | skip
        · have hts : Hid (nexts v (l.take (i + 1)) = _) := ⟨nexts_take (a := v) h⟩
          rw [← hx.out] at hts
          simp [*]
          (first | refine ifL_cases (fun h => ?_) (fun h => ?_) | refine gI_cases' (fun h => ?_) (fun h => ?_) | refine gI_cases (fun h => ?_) (fun h => ?_) | refine dI_cases' (fun h => ?_) (fun h => ?_) | refine dI_cases (fun h => ?_) (fun h => ?_)) <;> first | replace h := of_decide_eq_true h | replace h := of_decide_eq_false h | skip
          · simp [*]
            refine (ih.out (i + 1, y0 :: (nx ++ [l[i].2])) _ ?_ ?_ ?_).trans ?_
            · simp; omega
            · exact ⟨by simp; omega, ⟨by rw [hts.out]; simp [*]⟩⟩
            · simp
              try simp (disch := omega) only [wrap_id']
            · rfl
          · simp [*]
            refine (ih.out (i + 1, y0 :: nx) _ ?_ ?_ ?_).trans ?_
            · simp; omega
            · exact ⟨by simp; omega, ⟨by rw [hts.out]; simp [*]⟩⟩
            · simp
              try simp (disch := omega) only [wrap_id']
            · rfl
        · have e : i = l.length := by omega
          subst e
          have hx2 := hx.out
          simp at hx2
          simp [← hx2]
    · have e : v = n := by omega
      subst e
      simp [← ha.out]
theorem p38 (b : Bool) (n : Nat) (l : List Ed) (hn : n ≤ 20) (hl : l.length ≤ 400) (hg : gOk n l = true) (he : gChk n none l = true) : phi C0 (lim C0) 38 [grTV b n l] [] = some (.pv false (.sl (nums .i64 (ringsL (fun v => hasI (rnds l n (marks (nexts v l) [])) v) n))), []) := call0 Try.func38 (by kernel_rfl) (e38 Try.f38 Try.results38 b n l hn hl hg he)
end Go.Proofs.Ytopoaemlbnkhgaa
