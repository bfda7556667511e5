/- Bare, by the reference and by the program. -/
import Derived.Test.YtopoaemlbnkhgaaG19
import Derived.Test.YtopoaemlbnkhgaaG8
namespace Go.Proofs.Ytopoaemlbnkhgaa
open Go Go.Pm Go.Proofs
set_option linter.unusedVariables false
set_option linter.unusedSimpArgs false
/-- Of the first edges those that are kept. -/
def bareL (f : Nat → Bool) (l : List Ed) : Nat → List Ed
  | 0 => []
  | i + 1 => bareL f l i ++ (bif f i then [l.getD i (0, 0)] else [])
theorem bareL_len (f : Nat → Bool) (l : List Ed) : ∀ i, (bareL f l i).length ≤ i
  | 0 => Nat.le_refl _
  | i + 1 => by have := bareL_len f l i; simp only [bareL]; cases f i <;> simp <;> omega
theorem bareL_eq {f g : Nat → Bool} (l : List Ed) : ∀ i, (∀ j, j < i → f j = g j) → bareL f l i = bareL g l i
  | 0, _ => rfl
  | i + 1, h => by rw [bareL, bareL, bareL_eq l i fun j hj => h j (by omega), h i (by omega)]
theorem bareL_at {f : Nat → Bool} {l : List Ed} {i : Nat} (h : i < l.length) : bareL f l (i + 1) = bareL f l i ++ (bif f i then [l[i]] else []) := by
  simp [bareL, List.getD, h]
@[simp] theorem bareL_zero (f : Nat → Bool) (l : List Ed) : bareL f l 0 = [] := rfl
/-- Another way than the edge itself joins its ends. -/
def leadS (l : List Ed) (n : Nat) (i : Nat) : Bool := hasI (rnds (exc i 0 l) n (marks (nexts (l.getD i (0, 0)).1 (exc i 0 l)) [])) (l.getD i (0, 0)).2
set_option maxRecDepth 100000 in
set_option maxHeartbeats 4000000 in
theorem e40_no (fn : Func) (hr : fn.results = #[.cell 2 34, .tmp 3]) (b : Bool) (n : Int) (l : List Ed) (hl : l.length ≤ 1048576) (hg : gOk n l = false) : lim C0 40 fn [.c (code Try.f40)] ⟨number [grTV b n l] 0, []⟩ = some (.tu [grTV false 0 [], (.pv false (.sc (.bool false)))], []) := by
  have hp1 := plan40_1
  simp [opsOf, code, Try.f40] at hp1
  have hp7 := plan40_7
  simp [opsOf, code, Try.f40] at hp7
  have hp8 := plan40_8
  simp [opsOf, code, Try.f40] at hp8
  have p1 := p45
  simp only [grTV] at p1
  simp [code, Try.f40, hr, hp1, hp7, hp8, p1, hg, hl]
theorem p40_no (b : Bool) (n : Int) (l : List Ed) (hl : l.length ≤ 1048576) (hg : gOk n l = false) : phi C0 (lim C0) 40 [grTV b n l] [] = some (.tu [grTV false 0 [], (.pv false (.sc (.bool false)))], []) := call0 Try.func40 (by kernel_rfl) (e40_no Try.f40 Try.results40 b n l hl hg)
set_option maxRecDepth 100000 in
set_option maxHeartbeats 4000000 in
theorem e40_ring (fn : Func) (hr : fn.results = #[.cell 2 34, .tmp 3]) (b : Bool) (n : Nat) (l : List Ed) (hn : n ≤ 20) (hl : l.length ≤ 400) (hg : gOk n l = true) (he : gChk n none l = true) (ho : (ordL n l []).length < n) : lim C0 40 fn [.c (code Try.f40)] ⟨number [grTV b n l] 0, []⟩ = some (.tu [grTV false 0 [], (.pv false (.sc (.bool false)))], []) := by
  have hp1 := plan40_1
  simp [opsOf, code, Try.f40] at hp1
  have hp7 := plan40_7
  simp [opsOf, code, Try.f40] at hp7
  have hp8 := plan40_8
  simp [opsOf, code, Try.f40] at hp8
  have p1 := fun b => p45 b n l (by omega)
  have p3 := fun b => p62 b n l hn hl he
  have ho' : ((ordL n l []).length : Int) < n := by omega
  simp only [grTV] at p1 p3
  simp [code, Try.f40, hr, hp1, hp7, hp8, p1, hg, hl, p3, ho, ho']
theorem p40_ring (b : Bool) (n : Nat) (l : List Ed) (hn : n ≤ 20) (hl : l.length ≤ 400) (hg : gOk n l = true) (he : gChk n none l = true) (ho : (ordL n l []).length < n) : phi C0 (lim C0) 40 [grTV b n l] [] = some (.tu [grTV false 0 [], (.pv false (.sc (.bool false)))], []) := call0 Try.func40 (by kernel_rfl) (e40_ring Try.f40 Try.results40 b n l hn hl hg he ho)
set_option maxRecDepth 100000 in
set_option maxHeartbeats 4000000 in
theorem e40 (fn : Func) (hr : fn.results = #[.cell 2 34, .tmp 3]) (b : Bool) (n : Nat) (l : List Ed) (hn : n ≤ 20) (hl : l.length ≤ 400) (hg : gOk n l = true) (he : gChk n none l = true) (ho : n ≤ (ordL n l []).length) : lim C0 40 fn [.c (code Try.f40)] ⟨number [grTV b n l] 0, []⟩ = some (.tu [grTV false n (bareL (fun i => !leadS l n i) l l.length), (.pv false (.sc (.bool true)))], []) := by
  have hp1 := plan40_1
  simp [opsOf, code, Try.f40] at hp1
  have hp7 := plan40_7
  simp [opsOf, code, Try.f40] at hp7
  have hp8 := plan40_8
  simp [opsOf, code, Try.f40] at hp8
  have p1 := fun b => p45 b n l (by omega)
  have p2 := fun b a c k hc => p70 b n l a c k hn hl he hc
  have p3 := fun b => p62 b n l hn hl he
  have ho' : ¬ ((ordL n l []).length : Int) < n := by omega
  have ho2 : ¬ (ordL n l []).length < n := by omega
  have hal : ∀ e ∈ l, edIn n e = true := fun e h => gChk_in he e h
  simp only [grTV] at p1 p2 p3
  simp [code, Try.f40, hr, hp1, hp7, hp8, p1, hg, hl, p3, ho', ho2]
  generalize hf : (fun i => !leadS l n i) = f
  refine (loop_to (s0 := ?s1) (fun x => l.length - x.1) (fun x => [(5, (.pv false (.sc (.int .i64 ((x.1 : Nat))))))]) (fun x => [(16, .box [(.pv false (.sc (.int .i64 ((n : Nat))))), .pv b (.sl (eds l))]), (18, .box [(.pv false (.sc (.int .i64 0))), .nl]), (20, .box [(.pv false (.sc (.int .i64 ((n : Nat))))), slT 22 x.2])] ++ slH 22 42 2 edP x.2) (fun x K => K [(5, (.pv false (.sc (.int .i64 l.length))))] ([(16, .box [(.pv false (.sc (.int .i64 ((n : Nat))))), .pv b (.sl (eds l))]), (18, .box [(.pv false (.sc (.int .i64 0))), .nl]), (20, .box [(.pv false (.sc (.int .i64 ((n : Nat))))), slT 22 (bareL f l l.length)])] ++ slH 22 42 2 edP (bareL f l l.length))) (fun x => x.1 ≤ l.length ∧ Hid (x.2 = bareL f l x.1)) ((0 : Nat), ([] : List Ed)) ?hc1 ?h01 ?hs1 ?step1).trans ?r1
  case hc1 => simp; rfl
  case h01 => first | (simp; done) | (simp [*]; done) | exact ⟨by simp, ⟨rfl⟩⟩ | grind | (simp; omega)
  case hs1 => first | (simp; done) | (simp [*]; done)
  case r1 => cases hk : bareL f l l.length <;> simp [hr, hk]
  rintro k ⟨i, acc⟩ ⟨hi, ha⟩ ih
  have hlen := bareL_len f l i
  have h' : acc = bareL f l i := ha.out
  rw [← h'] at hlen
  simp at hi
  have hts : ∀ h : i < l.length, Hid (bareL f l (i + 1) = acc ++ (bif f i then [l[i]] else [])) := fun h => ⟨by rw [bareL_at h, ← h']⟩
  have hq : ∀ h : i < l.length, ∀ b, phi C0 (lim C0) 70 [.ag [(.pv false (.sc (.int .i64 ((n : Nat))))), .pv b (.sl (eds l))], (.pv false (.sc (.int .i64 (l[i].1)))), (.pv false (.sc (.int .i64 (l[i].2)))), (.pv false (.sc (.int .i64 ((i : Nat)))))] [] = some ((.pv false (.sc (.bool (leadS l n i)))), []) := fun h b => by
    have h2 := hal l[i] (List.getElem_mem h)
    have := p2 b l[i].1 l[i].2 i (by grind [edIn])
    simpa [leadS, List.getD, h] using this
  have hfi : f i = !leadS l n i := by rw [← hf]
  have g3 : (acc.length + 1) * 16 ≤ Pm.roomBytes := by unfold Pm.roomBytes; omega
  have g4 : acc.length + 1 ≤ 9223372036854775807 := by omega
  clear hlen h' p1 p2 p3 ho ho' ho2
  rcases acc with _ | ⟨a0, acc⟩
  all_goals simp
  all_goals simp at g3 g4
  · (first | refine ifL_cases (fun h => ?_) (fun h => ?_) | refine gI_cases' (fun h => ?_) (fun h => ?_) | refine gI_cases (fun h => ?_) (fun h => ?_) | refine dI_cases' (fun h => ?_) (fun h => ?_) | refine dI_cases (fun h => ?_) (fun h => ?_)) <;> first | replace h := of_decide_eq_true h | replace h := of_decide_eq_false h | skip
    · have hx := hts h
      have hq' := hq h
      simp [hq', h, hr, hp1, hp7, hp8]
      (first | refine ifL_cases (fun h => ?_) (fun h => ?_) | refine gI_cases' (fun h => ?_) (fun h => ?_) | refine gI_cases (fun h => ?_) (fun h => ?_) | refine dI_cases' (fun h => ?_) (fun h => ?_) | refine dI_cases (fun h => ?_) (fun h => ?_)) <;> first | replace h := of_decide_eq_true h | replace h := of_decide_eq_false h | skip
      · have hx4 := hx.out
        simp [hfi, *] at hx4
        simp [*]
        refine (ih.out (i + 1, []) _ ?_ ?_ ?_).trans ?_
        · simp; omega
        · exact ⟨by simp; omega, ⟨hx4.symm⟩⟩
        · simp
          try simp (disch := omega) only [wrap_id']
        · rfl
      · have hx4 := hx.out
        simp [hfi, *] at hx4
        simp [*]
        refine (ih.out (i + 1, [l[i]]) _ ?_ ?_ ?_).trans ?_
        · simp; omega
        · exact ⟨by simp; omega, ⟨hx4.symm⟩⟩
        · simp
          try simp (disch := omega) only [wrap_id']
        · rfl
    · have e : i = l.length := by omega
      subst e
      have hx : bareL f l l.length = [] := ha.out.symm
      simp [hx]
  · (first | refine ifL_cases (fun h => ?_) (fun h => ?_) | refine gI_cases' (fun h => ?_) (fun h => ?_) | refine gI_cases (fun h => ?_) (fun h => ?_) | refine dI_cases' (fun h => ?_) (fun h => ?_) | refine dI_cases (fun h => ?_) (fun h => ?_)) <;> first | replace h := of_decide_eq_true h | replace h := of_decide_eq_false h | skip
    · have hx := hts h
      have hq' := hq h
      simp [hq', h, hr, hp1, hp7, hp8]
      (first | refine ifL_cases (fun h => ?_) (fun h => ?_) | refine gI_cases' (fun h => ?_) (fun h => ?_) | refine gI_cases (fun h => ?_) (fun h => ?_) | refine dI_cases' (fun h => ?_) (fun h => ?_) | refine dI_cases (fun h => ?_) (fun h => ?_)) <;> first | replace h := of_decide_eq_true h | replace h := of_decide_eq_false h | skip
      · have hx4 := hx.out
        simp [hfi, *] at hx4
        simp [*]
        refine (ih.out (i + 1, a0 :: acc) _ ?_ ?_ ?_).trans ?_
        · simp; omega
        · exact ⟨by simp; omega, ⟨hx4.symm⟩⟩
        · simp
          try simp (disch := omega) only [wrap_id']
        · rfl
      · have hx4 := hx.out
        simp [hfi, *] at hx4
        simp [*]
        refine (ih.out (i + 1, a0 :: (acc ++ [l[i]])) _ ?_ ?_ ?_).trans ?_
        · simp; omega
        · exact ⟨by simp; omega, ⟨hx4.symm⟩⟩
        · simp
          try simp (disch := omega) only [wrap_id']
        · rfl
    · have e : i = l.length := by omega
      subst e
      have hx : bareL f l l.length = a0 :: acc := ha.out.symm
      simp [hx]
theorem p40 (b : Bool) (n : Nat) (l : List Ed) (hn : n ≤ 20) (hl : l.length ≤ 400) (hg : gOk n l = true) (he : gChk n none l = true) (ho : n ≤ (ordL n l []).length) : phi C0 (lim C0) 40 [grTV b n l] [] = some (.tu [grTV false n (bareL (fun i => !leadS l n i) l l.length), (.pv false (.sc (.bool true)))], []) := call0 Try.func40 (by kernel_rfl) (e40 Try.f40 Try.results40 b n l hn hl hg he ho)
set_option maxRecDepth 100000 in
set_option maxHeartbeats 4000000 in
theorem e20_no (fn : Func) (hr : fn.results = #[.cell 2 34, .tmp 3]) (b : Bool) (n : Int) (l : List Ed) (hl : l.length ≤ 1048576) (hg : gOk n l = false) : lim C0 20 fn [.c (code Try.f20)] ⟨number [grTV b n l] 0, []⟩ = some (.tu [.ag [(.pv false (.sc (.int .i64 0))), .ref 16 0 0], (.pv false (.sc (.bool false)))], [(16, .row .own 42 2 [])]) := by
  have hp8 := plan20_8
  simp [opsOf, code, Try.f20] at hp8
  have hp9 := plan20_9
  simp [opsOf, code, Try.f20] at hp9
  have p1 := fun b => p56_no b n l hl hg
  simp only [grTV] at p1
  simp [code, Try.f20, hr, hp8, hp9, p1]
theorem p20_no (b : Bool) (n : Int) (l : List Ed) (hl : l.length ≤ 1048576) (hg : gOk n l = false) : phi C0 (lim C0) 20 [grTV b n l] [] = some (.tu [.ag [(.pv false (.sc (.int .i64 0))), .ref 16 0 0], (.pv false (.sc (.bool false)))], [(16, .row .own 42 2 [])]) := call0 Try.func20 (by kernel_rfl) (e20_no Try.f20 Try.results20 b n l hl hg)
set_option maxRecDepth 100000 in
set_option maxHeartbeats 4000000 in
theorem e20_ring (fn : Func) (hr : fn.results = #[.cell 2 34, .tmp 3]) (b : Bool) (n : Nat) (l : List Ed) (hl : l.length ≤ 400) (hg : gOk n l = true) (ho : (ordL n l []).length < n) : lim C0 20 fn [.c (code Try.f20)] ⟨number [grTV b n l] 0, []⟩ = some (.tu [.ag [(.pv false (.sc (.int .i64 0))), .ref 16 0 0], (.pv false (.sc (.bool false)))], [(16, .row .own 42 2 [])]) := by
  have hp8 := plan20_8
  simp [opsOf, code, Try.f20] at hp8
  have hp9 := plan20_9
  simp [opsOf, code, Try.f20] at hp9
  have p1 := fun b => p56 b n l (by omega) hg
  have ho2 : ¬ n ≤ (ordL n l []).length := by omega
  simp only [grTV, ho2, if_false] at p1
  simp [code, Try.f20, hr, hp8, hp9, p1]
theorem p20_ring (b : Bool) (n : Nat) (l : List Ed) (hl : l.length ≤ 400) (hg : gOk n l = true) (ho : (ordL n l []).length < n) : phi C0 (lim C0) 20 [grTV b n l] [] = some (.tu [.ag [(.pv false (.sc (.int .i64 0))), .ref 16 0 0], (.pv false (.sc (.bool false)))], [(16, .row .own 42 2 [])]) := call0 Try.func20 (by kernel_rfl) (e20_ring Try.f20 Try.results20 b n l hl hg ho)
theorem delE_len {l : List Ed} {i : Nat} (h : i < l.length) : (delE l i).length = l.length := by
  simp [delE, List.length_eraseIdx_of_lt h]
  omega
theorem delE_take {l : List Ed} {i : Nat} (h : i < l.length) : List.take (l.length - 1) (delE l i) = l.eraseIdx i := List.take_left' (List.length_eraseIdx_of_lt h)
theorem erase_in {n : Int} {l : List Ed} (he : ∀ e ∈ l, edIn n e = true) (i : Nat) : ∀ e ∈ l.eraseIdx i, edIn n e = true := fun e h => he e ((List.eraseIdx_sublist l i).subset h)
set_option maxRecDepth 100000 in
set_option maxHeartbeats 4000000 in
theorem e20 (fn : Func) (hr : fn.results = #[.cell 2 34, .tmp 3]) (b : Bool) (n : Nat) (l : List Ed) (f : Nat → Bool) (hn : n ≤ 20) (hl : l.length ≤ 400) (hg : gOk n l = true) (he : ∀ e ∈ l, edIn n e = true) (ho : n ≤ (ordL n l []).length) (hf : ∀ (i : Nat) (h : i < l.length), hasI (waysL n (l.eraseIdx i) (erase_in he i) [l[i].1] []) l[i].2 = !f i) : lim C0 20 fn [.c (code Try.f20)] ⟨number [grTV b n l] 0, []⟩ = some (.tu [.ag [(.pv false (.sc (.int .i64 n))), .ref 16 0 (bareL f l l.length).length], (.pv false (.sc (.bool true)))], [(16, .row .own 42 2 (eds (bareL f l l.length)))]) := by
  have hp8 := plan20_8
  simp [opsOf, code, Try.f20] at hp8
  have hp9 := plan20_9
  simp [opsOf, code, Try.f20] at hp9
  have p1 := fun b => p56 b n l (by omega) hg
  simp only [grTV, ho, if_true] at p1
  simp [code, Try.f20, hr, hp8, hp9, p1, hl]
  generalize hord : ordL n l [] = od at *
  clear p1 hord
  refine (loop_to (s0 := ?s2) (fun x => l.length - x.1) (fun x => [(24, (.pv false (.sc (.int .i64 ((x.1 : Nat))))))]) (fun x => [(16, .box [(.pv false (.sc (.int .i64 ((n : Nat))))), .pv b (.sl (eds l))]), (18, .box [(.pv false (.sc (.int .i64 0))), .nl]), (20, .row .own 3 1 (nums .i64 od)), (22, .box [(.pv false (.sc (.int .i64 ((n : Nat))))), slT 24 x.2])] ++ slH 24 42 2 edP x.2) (fun x K => K [(24, (.pv false (.sc (.int .i64 l.length))))] ([(16, .box [(.pv false (.sc (.int .i64 ((n : Nat))))), .pv b (.sl (eds l))]), (18, .box [(.pv false (.sc (.int .i64 0))), .nl]), (20, .row .own 3 1 (nums .i64 od)), (22, .box [(.pv false (.sc (.int .i64 ((n : Nat))))), slT 24 (bareL f l l.length)])] ++ slH 24 42 2 edP (bareL f l l.length))) (fun x => x.1 ≤ l.length ∧ Hid (x.2 = bareL f l x.1)) ((0 : Nat), ([] : List Ed)) ?hc2 ?h02 ?hs2 ?step2).trans ?r2
  case hc2 => simp; rfl
  case h02 => first | (simp; done) | (simp [*]; done) | exact ⟨by simp, ⟨rfl⟩⟩ | grind | (simp; omega)
  case hs2 => first | (simp; done) | (simp [*]; done)
  case r2 => cases hk : bareL f l l.length <;> simp [hr, hk]
  rintro k ⟨i, acc⟩ ⟨hi, ha⟩ ih
  have hlen := bareL_len f l i
  have h' : acc = bareL f l i := ha.out
  rw [← h'] at hlen
  simp at hi
  have hts : ∀ h : i < l.length, Hid (bareL f l (i + 1) = acc ++ (bif f i then [l[i]] else [])) := fun h => ⟨by rw [bareL_at h, ← h']⟩
  have g3 : (acc.length + 1) * 16 ≤ Pm.roomBytes := by unfold Pm.roomBytes; omega
  have g4 : acc.length + 1 ≤ 9223372036854775807 := by omega
  have g5 : l.length * 16 ≤ Pm.roomBytes := by unfold Pm.roomBytes; omega
  have g6 : l.length ≤ 9223372036854775807 := by omega
  have c12 : (∀ (r : List PV), r ∈ rws edP l → r.length = 2) = True := eq_true (edP_all _)
  clear hlen h'
  rcases acc with _ | ⟨a0, acc⟩
  all_goals simp
  all_goals simp at g3 g4
  · (first | refine ifL_cases (fun h => ?_) (fun h => ?_) | refine gI_cases' (fun h => ?_) (fun h => ?_) | refine gI_cases (fun h => ?_) (fun h => ?_) | refine dI_cases' (fun h => ?_) (fun h => ?_) | refine dI_cases (fun h => ?_) (fun h => ?_)) <;> first | replace h := of_decide_eq_true h | replace h := of_decide_eq_false h | skip
    · have hx := hts h
      have hd := p57 l i h hl
      have hb : edIn n l[i] = true := he _ (List.getElem_mem h)
      have hb1 : 0 ≤ l[i].1 ∧ l[i].1 < n ∧ 0 ≤ l[i].2 ∧ l[i].2 < n := by grind [edIn]
      have hb2 : max l[i].2 0 = l[i].2 ∧ l[i].2 < 20 := by omega
      have hb3 : l[i].2.toNat < 20 := by omega
      have hle := List.length_eraseIdx_of_lt h
      have hwy := fun b => p58 b n (l.eraseIdx i) l[i].1 hn (by omega) (erase_in he i) ⟨hb1.1, hb1.2.1⟩
      have hfi := hf i h
      generalize waysL n (l.eraseIdx i) (erase_in he i) [l[i].1] [] = ws at *
      have hwi : IntKind.i64.wrap ((i : Int) + 1) = i + 1 := wrap_id' (by omega)
      have hd1 := delE_len h
      have hd2 := delE_take h
      have hd3 : l.length - 1 ≤ l.length := by omega
      simp only [grTV] at hwy
      simp [hd, h, hr, hp8, hp9, g5, g6, c12, hwi, hd1, hd2, hd3, hwy, hb1, hb2, hb3]
      (first | refine ifL_cases (fun h => ?_) (fun h => ?_) | refine gI_cases' (fun h => ?_) (fun h => ?_) | refine gI_cases (fun h => ?_) (fun h => ?_) | refine dI_cases' (fun h => ?_) (fun h => ?_) | refine dI_cases (fun h => ?_) (fun h => ?_)) <;> first | replace h := of_decide_eq_true h | replace h := of_decide_eq_false h | skip
      · have hx4 := hx.out
        have hfx : f i = false := by rw [h] at hfi; simpa using hfi.symm
        simp [hfx] at hx4
        simp [h, hr, hp8, hp9]
        refine (ih.out (i + 1, []) _ ?_ ?_ ?_).trans ?_
        · simp; omega
        · exact ⟨by simp; omega, ⟨hx4.symm⟩⟩
        · simp
          try simp (disch := omega) only [wrap_id']
        · rfl
      · have hx4 := hx.out
        have hfx : f i = true := by rw [h] at hfi; simpa using hfi.symm
        simp [hfx] at hx4
        simp [h, hr, hp8, hp9, g3, g4, hwi]
        refine (ih.out (i + 1, [l[i]]) _ ?_ ?_ ?_).trans ?_
        · simp; omega
        · exact ⟨by simp; omega, ⟨hx4.symm⟩⟩
        · simp
          try simp (disch := omega) only [wrap_id']
        · rfl
    · have e : i = l.length := by omega
      subst e
      have hx : bareL f l l.length = [] := ha.out.symm
      simp [hx]
  · (first | refine ifL_cases (fun h => ?_) (fun h => ?_) | refine gI_cases' (fun h => ?_) (fun h => ?_) | refine gI_cases (fun h => ?_) (fun h => ?_) | refine dI_cases' (fun h => ?_) (fun h => ?_) | refine dI_cases (fun h => ?_) (fun h => ?_)) <;> first | replace h := of_decide_eq_true h | replace h := of_decide_eq_false h | skip
    · have hx := hts h
      have hd := p57 l i h hl
      have hb : edIn n l[i] = true := he _ (List.getElem_mem h)
      have hb1 : 0 ≤ l[i].1 ∧ l[i].1 < n ∧ 0 ≤ l[i].2 ∧ l[i].2 < n := by grind [edIn]
      have hb2 : max l[i].2 0 = l[i].2 ∧ l[i].2 < 20 := by omega
      have hb3 : l[i].2.toNat < 20 := by omega
      have hle := List.length_eraseIdx_of_lt h
      have hwy := fun b => p58 b n (l.eraseIdx i) l[i].1 hn (by omega) (erase_in he i) ⟨hb1.1, hb1.2.1⟩
      have hfi := hf i h
      generalize waysL n (l.eraseIdx i) (erase_in he i) [l[i].1] [] = ws at *
      have hwi : IntKind.i64.wrap ((i : Int) + 1) = i + 1 := wrap_id' (by omega)
      have hd1 := delE_len h
      have hd2 := delE_take h
      have hd3 : l.length - 1 ≤ l.length := by omega
      simp only [grTV] at hwy
      simp [hd, h, hr, hp8, hp9, g5, g6, c12, hwi, hd1, hd2, hd3, hwy, hb1, hb2, hb3]
      (first | refine ifL_cases (fun h => ?_) (fun h => ?_) | refine gI_cases' (fun h => ?_) (fun h => ?_) | refine gI_cases (fun h => ?_) (fun h => ?_) | refine dI_cases' (fun h => ?_) (fun h => ?_) | refine dI_cases (fun h => ?_) (fun h => ?_)) <;> first | replace h := of_decide_eq_true h | replace h := of_decide_eq_false h | skip
      · have hx4 := hx.out
        have hfx : f i = false := by rw [h] at hfi; simpa using hfi.symm
        simp [hfx] at hx4
        simp [h, hr, hp8, hp9]
        refine (ih.out (i + 1, a0 :: acc) _ ?_ ?_ ?_).trans ?_
        · simp; omega
        · exact ⟨by simp; omega, ⟨hx4.symm⟩⟩
        · simp
          try simp (disch := omega) only [wrap_id']
        · rfl
      · have hx4 := hx.out
        have hfx : f i = true := by rw [h] at hfi; simpa using hfi.symm
        simp [hfx] at hx4
        simp [h, hr, hp8, hp9, g3, g4, hwi]
        refine (ih.out (i + 1, a0 :: (acc ++ [l[i]])) _ ?_ ?_ ?_).trans ?_
        · simp; omega
        · exact ⟨by simp; omega, ⟨hx4.symm⟩⟩
        · simp
          try simp (disch := omega) only [wrap_id']
        · rfl
    · have e : i = l.length := by omega
      subst e
      have hx : bareL f l l.length = a0 :: acc := ha.out.symm
      simp [hx]
theorem p20 (b : Bool) (n : Nat) (l : List Ed) (f : Nat → Bool) (hn : n ≤ 20) (hl : l.length ≤ 400) (hg : gOk n l = true) (he : ∀ e ∈ l, edIn n e = true) (ho : n ≤ (ordL n l []).length) (hf : ∀ (i : Nat) (h : i < l.length), hasI (waysL n (l.eraseIdx i) (erase_in he i) [l[i].1] []) l[i].2 = !f i) : phi C0 (lim C0) 20 [grTV b n l] [] = some (.tu [.ag [(.pv false (.sc (.int .i64 n))), .ref 16 0 (bareL f l l.length).length], (.pv false (.sc (.bool true)))], [(16, .row .own 42 2 (eds (bareL f l l.length)))]) := call0 Try.func20 (by kernel_rfl) (e20 Try.f20 Try.results20 b n l f hn hl hg he ho hf)
end Go.Proofs.Ytopoaemlbnkhgaa
