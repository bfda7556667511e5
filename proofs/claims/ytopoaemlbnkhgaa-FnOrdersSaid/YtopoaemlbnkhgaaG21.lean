/- What can be come to, by the program. -/
import Derived.Test.YtopoaemlbnkhgaaG17
namespace Go.Proofs.Ytopoaemlbnkhgaa
open Go Go.Pm Go.Proofs
set_option linter.unusedVariables false
set_option linter.unusedSimpArgs false
def inR (n : Int) (v : Int) : Bool := decide (0 ≤ v) && decide (v < n)
def idxR (n : Int) : List Int → Nat → Int
  | [], _ => -1
  | x :: l, i => bif inR n x then idxR n l (i + 1) else i
theorem idxR_ge (n : Int) : ∀ (l : List Int) (i : Nat), decide (0 ≤ idxR n l i) = !insR n l
  | [], i => by simp [idxR, insR]
  | x :: l, i => by
    have ih := idxR_ge n l (i + 1)
    have e : insR n (x :: l) = (inR n x && insR n l) := rfl
    rw [e]
    cases h : inR n x <;> simp [idxR, h, ih]
set_option maxRecDepth 100000 in
set_option maxHeartbeats 4000000 in
theorem e76 (fn : Func) (hr : fn.results = #[.tmp 3]) (v : Int) (n : Nat) (b : Bool) (l : List Ed) (hn : n ≤ 20) : lim C0 76 fn [.c (code Try.f76)] ⟨number [(.pv false (.sc (.int .i64 v))), .pv true (.pt [.sc (.int .i64 n), .sl (eds l)])] 0, []⟩ = some ((.pv false (.sc (.bool (!inR n v)))), []) := by
  have p1 := p60
  have hw : IntKind.i64.wrap ((n : Int) - 1) = n - 1 := wrap_id' (by omega)
  have e : inI v 0 ((n : Int) - 1) = inR n v := by simp only [inI, inR]; grind
  simp [code, Try.f76, hr, p1, hw, e]
theorem p76 (v : Int) (n : Nat) (b : Bool) (l : List Ed) (hn : n ≤ 20) : phi C0 (lim C0) 76 [(.pv false (.sc (.int .i64 v))), .pv true (.pt [.sc (.int .i64 n), .sl (eds l)])] [] = some ((.pv false (.sc (.bool (!inR n v)))), []) := call0 Try.func76 (by kernel_rfl) (e76 Try.f76 Try.results76 v n b l hn)
set_option maxRecDepth 100000 in
set_option maxHeartbeats 4000000 in
theorem e93_r (fn : Func) (hr : fn.results = #[.tmp 4]) (b : Bool) (n : Nat) (l : List Ed) (s : List Int) (hn : n ≤ 20) (hs : s.length ≤ 1048576) : lim C0 93 fn [.c (code Try.f93)] ⟨number [.pv b (.sl (nums .i64 s)), .pv true (.cl 76 [.pt [.sc (.int .i64 n), .sl (eds l)]])] 0, []⟩ = some ((.pv false (.sc (.int .i64 (idxR n s 0)))), []) := by
  simp [code, Try.f93, hr]
  refine (loop_go (s0 := ?s1) (fun i => s.length - i) (fun i => [(8, (.pv false (.sc (.int .i64 ((i : Nat))))))]) (fun i => []) (fun i => some ((.pv false (.sc (.int .i64 (idxR n (s.drop i) i)))), [])) (fun i => i ≤ s.length) 0 ?hc1 ?h01 ?hs1 ?step1).trans ?r1
  case hc1 => simp; rfl
  case h01 => first | (simp; done) | (simp [*]; done) | exact ⟨by simp, ⟨rfl⟩⟩ | grind | (simp; omega)
  case hs1 => first | (simp; done) | (simp [*]; done)
  case r1 => simp
  intro i hi ih
  simp
  (first | refine ifL_cases (fun h => ?_) (fun h => ?_) | refine gI_cases' (fun h => ?_) (fun h => ?_) | refine gI_cases (fun h => ?_) (fun h => ?_) | refine dI_cases' (fun h => ?_) (fun h => ?_) | refine dI_cases (fun h => ?_) (fun h => ?_)) <;> first | replace h := of_decide_eq_true h | replace h := of_decide_eq_false h | skip
  · have p1 := p76 s[i] n true l hn
    simp [*]
    repeat' ((first | refine ifL_cases (fun h => ?_) (fun h => ?_) | refine gI_cases' (fun h => ?_) (fun h => ?_) | refine gI_cases (fun h => ?_) (fun h => ?_) | refine dI_cases' (fun h => ?_) (fun h => ?_) | refine dI_cases (fun h => ?_) (fun h => ?_)) <;> first | replace h := of_decide_eq_true h | replace h := of_decide_eq_false h | skip
             all_goals try simp [*])
    all_goals try simp (disch := omega) only [wrap_id']
    all_goals first | (refine (ih.out (i + 1) _ (by first | omega | grind) (by first | omega | (refine And.intro ?_ ?_; focus omega; (simp [*]; done)) | grind) (by first | (simp [*]; done) | (simp [*]; omega))).trans ?_; try simp [*]) | skip
    all_goals clear ih p1
    all_goals grind [drop_at, drop_end, idxR]
  · have e : i = s.length := by omega
    subst e
    simp [idxR, hr]
theorem p93_r (b : Bool) (n : Nat) (l : List Ed) (s : List Int) (hn : n ≤ 20) (hs : s.length ≤ 1048576) : phi C0 (lim C0) 93 [.pv b (.sl (nums .i64 s)), .pv true (.cl 76 [.pt [.sc (.int .i64 n), .sl (eds l)]])] [] = some ((.pv false (.sc (.int .i64 (idxR n s 0)))), []) := call0 Try.func93 (by kernel_rfl) (e93_r Try.f93 Try.results93 b n l s hn hs)
set_option maxRecDepth 100000 in
set_option maxHeartbeats 4000000 in
theorem e75_r (fn : Func) (hr : fn.results = #[.tmp 4]) (b : Bool) (n : Nat) (l : List Ed) (s : List Int) (hn : n ≤ 20) (hs : s.length ≤ 1048576) : lim C0 75 fn [.c (code Try.f75)] ⟨number [.pv b (.sl (nums .i64 s)), .pv true (.cl 76 [.pt [.sc (.int .i64 n), .sl (eds l)]])] 0, []⟩ = some ((.pv false (.sc (.bool (!insR n s)))), []) := by
  have p1 := fun b => p93_r b n l s hn hs
  simp [code, Try.f75, hr, p1, idxR_ge]
theorem p75_r (b : Bool) (n : Nat) (l : List Ed) (s : List Int) (hn : n ≤ 20) (hs : s.length ≤ 1048576) : phi C0 (lim C0) 75 [.pv b (.sl (nums .i64 s)), .pv true (.cl 76 [.pt [.sc (.int .i64 n), .sl (eds l)]])] [] = some ((.pv false (.sc (.bool (!insR n s)))), []) := call0 Try.func75 (by kernel_rfl) (e75_r Try.f75 Try.results75 b n l s hn hs)
def cat (f : Int → List Int) : List Int → List Int
  | [] => []
  | v :: l => f v ++ cat f l
theorem cat_app (f : Int → List Int) : ∀ l m : List Int, cat f (l ++ m) = cat f l ++ cat f m
  | [], m => rfl
  | v :: l, m => by simp only [List.cons_append, cat, cat_app f l m, List.append_assoc]
theorem cat_take {f : Int → List Int} {l : List Int} {i : Nat} (h : i < l.length) : cat f (l.take (i + 1)) = cat f (l.take i) ++ f l[i] := by
  rw [take_at h, cat_app]
  simp [cat]
theorem cat_len {f : Int → List Int} {k : Nat} (h : ∀ v, (f v).length ≤ k) : ∀ l : List Int, (cat f l).length ≤ l.length * k
  | [] => Nat.le_of_eq (by simp [cat])
  | v :: l => by have h1 := cat_len h l; have h2 := h v; simp only [cat, List.length_append, List.length_cons, Nat.add_mul]; omega
def tolA (ap ws : List Int) : Nat → List Int
  | 0 => ap
  | j + 1 => tolA ap ws j ++ (bif hasI ws j then [(j : Int)] else [])
theorem tolA_eq (ap ws : List Int) : ∀ n, tolA ap ws n = ap ++ told ws n
  | 0 => by simp [tolA, told]
  | n + 1 => by simp [tolA, told, tolA_eq ap ws n]
theorem tolA_len (ap ws : List Int) : ∀ n, (tolA ap ws n).length ≤ ap.length + n
  | 0 => by simp [tolA]
  | n + 1 => by have := tolA_len ap ws n; simp only [tolA]; cases hasI ws n <;> simp <;> omega
def jkA (o len : Nat) : List Int → TV
  | [] => .ref o 0 len
  | _ :: _ => .ud
@[simp] theorem jkA_nil (o len : Nat) : jkA o len [] = .ref o 0 len := rfl
@[simp] theorem jkA_cons (o len : Nat) (a : Int) (l : List Int) : jkA o len (a :: l) = .ud := rfl
@[simp] theorem jkA_snoc (o len : Nat) (a : Int) (l : List Int) : jkA o len (l ++ [a]) = .ud := by cases l <;> rfl
set_option maxRecDepth 100000 in
set_option maxHeartbeats 4000000 in
theorem e44_no (fn : Func) (hr : fn.results = #[.tmp 4]) (b b' : Bool) (n : Int) (l : List Ed) (from' : List Int) (hl : l.length ≤ 1048576) (hf : from'.length ≤ 1048576) (hg : gOk n l = false) : lim C0 44 fn [.c (code Try.f44)] ⟨number [grTV b n l, .pv b' (.sl (nums .i64 from'))] 0, []⟩ = some (.ref 16 0 0, [(16, .row .own 3 1 [])]) := by
  have p1 := p59
  simp only [grTV] at p1
  simp [code, Try.f44, hr, p1, hg, hl]
theorem p44_no (b b' : Bool) (n : Int) (l : List Ed) (from' : List Int) (hl : l.length ≤ 1048576) (hf : from'.length ≤ 1048576) (hg : gOk n l = false) : phi C0 (lim C0) 44 [grTV b n l, .pv b' (.sl (nums .i64 from'))] [] = some (.ref 16 0 0, [(16, .row .own 3 1 [])]) := call0 Try.func44 (by kernel_rfl) (e44_no Try.f44 Try.results44 b b' n l from' hl hf hg)
set_option maxRecDepth 100000 in
set_option maxHeartbeats 4000000 in
theorem e44_out (fn : Func) (hr : fn.results = #[.tmp 4]) (b b' : Bool) (n : Nat) (l : List Ed) (from' : List Int) (hn : n ≤ 20) (hl : l.length ≤ 400) (hf : from'.length ≤ 1048576) (hg : gOk n l = true) (ho : (decide (from'.length ≤ 20) && insR n from') = false) : lim C0 44 fn [.c (code Try.f44)] ⟨number [grTV b n l, .pv b' (.sl (nums .i64 from'))] 0, []⟩ = some (.ref 16 0 0, [(16, .row .own 3 1 [])]) := by
  have p1 := fun b => p59 b n l (by omega)
  have p3 := fun b => p75_r b n l from' hn hf
  simp only [grTV] at p1
  simp [code, Try.f44, hr, p1, hg, hl, p3]
  (first | refine ifL_cases (fun h => ?_) (fun h => ?_) | refine gI_cases' (fun h => ?_) (fun h => ?_) | refine gI_cases (fun h => ?_) (fun h => ?_) | refine dI_cases' (fun h => ?_) (fun h => ?_) | refine dI_cases (fun h => ?_) (fun h => ?_)) <;> first | replace h := of_decide_eq_true h | replace h := of_decide_eq_false h | skip
  · have c : from'.length ≤ 20 := by omega
    simp [c] at ho
    simp [*]
  · have c : (20 : Int) < from'.length := by omega
    simp [*]
theorem p44_out (b b' : Bool) (n : Nat) (l : List Ed) (from' : List Int) (hn : n ≤ 20) (hl : l.length ≤ 400) (hf : from'.length ≤ 1048576) (hg : gOk n l = true) (ho : (decide (from'.length ≤ 20) && insR n from') = false) : phi C0 (lim C0) 44 [grTV b n l, .pv b' (.sl (nums .i64 from'))] [] = some (.ref 16 0 0, [(16, .row .own 3 1 [])]) := call0 Try.func44 (by kernel_rfl) (e44_out Try.f44 Try.results44 b b' n l from' hn hl hf hg ho)
set_option maxRecDepth 100000 in
set_option maxHeartbeats 4000000 in
theorem e44 (fn : Func) (hr : fn.results = #[.tmp 4]) (b b' : Bool) (n : Nat) (l : List Ed) (from' : List Int) (f : Int → List Int) (hn : n ≤ 20) (hl : l.length ≤ 400) (hf : from'.length ≤ 20) (hg : gOk n l = true) (he : ∀ e ∈ l, edIn n e = true) (hin : insR n from' = true) (hfl : ∀ v, (f v).length ≤ 20) (hw : ∀ (v : Int) (h : 0 ≤ v ∧ v < n), f v = told (waysL n l he [v] []) 20) : lim C0 44 fn [.c (code Try.f44)] ⟨number [grTV b n l, .pv b' (.sl (nums .i64 from'))] 0, []⟩ = some (.ref 16 0 (cptI (sortI (from' ++ cat f from'))).length, [(16, .row .own 3 1 (nums .i64 (cptI (sortI (from' ++ cat f from')))))]) := by
  have p1 := fun b => p59 b n l (by omega)
  have p2 := fun b v h => p58 b n l v hn hl he h
  have p3 := fun b => p75_r b n l from' hn (by omega)
  have c1 : ¬ (20 : Int) < from'.length := by omega
  have g1 : from'.length * 8 ≤ Pm.roomBytes := by unfold Pm.roomBytes; omega
  have g2 : from'.length ≤ 9223372036854775807 := by omega
  have c12 : (∀ (r : List PV), r ∈ rws (numP .i64) from' → r.length = 1) = True := eq_true (rws_all _ _ fun _ => rfl)
  simp only [grTV] at p1 p2
  simp [code, Try.f44, hr, p1, hg, hl, p3, c1, hin, g1, g2, c12]
  refine (loop_to (s0 := ?s2) (fun x => from'.length - x.1) (fun x => [(5, .ref 18 0 (from'.length + x.2.length)), (23, .ud), (25, jkA 18 from'.length x.2), (28, (.pv false (.sc (.int .i64 ((x.1 : Nat))))))]) (fun x => [(16, .box [(.pv false (.sc (.int .i64 ((n : Nat))))), .pv b (.sl (eds l))]), (18, .row .own 3 1 (nums .i64 (from' ++ x.2)))]) (fun x K => K [(5, .ref 18 0 (from'.length + (cat f from').length)), (23, .ud), (25, jkA 18 from'.length (cat f from')), (28, (.pv false (.sc (.int .i64 from'.length))))] ([(16, .box [(.pv false (.sc (.int .i64 ((n : Nat))))), .pv b (.sl (eds l))]), (18, .row .own 3 1 (nums .i64 (from' ++ cat f from')))])) (fun x => x.1 ≤ from'.length ∧ Hid (x.2 = cat f (from'.take x.1))) ((0 : Nat), ([] : List Int)) ?hc2 ?h02 ?hs2 ?step2).trans ?r2
  case hc2 => simp; rfl
  case h02 => first | (simp; done) | (simp [*]; done) | exact ⟨by simp, ⟨rfl⟩⟩ | grind | (simp; omega)
  case hs2 => first | (simp; done) | (simp [*]; done)
  case r2 =>
    have hc := cat_len hfl from'
    have q1 := pSortI (from' ++ cat f from') (by simp; omega)
    have q2 := pCptI (sortI (from' ++ cat f from')) (by simp [sortI]; omega)
    have hsl : (sortI (from' ++ cat f from')).length = from'.length + (cat f from').length := by simp [sortI]
    rw [hsl] at q2
    simp only [List.length_append] at q1
    generalize cat f from' = c at *
    rcases c with _ | ⟨c0, c⟩
    all_goals simp at q1 q2
    all_goals simp [hr, q1, q2]
  rintro k ⟨i, ap⟩ ⟨hi, ha⟩ ih
  have h' : ap = cat f (from'.take i) := ha.out
  have hlen := cat_len hfl (from'.take i)
  rw [← h'] at hlen
  simp at hi hlen
  have hlen2 : ap.length ≤ 400 := by omega
  clear hlen
  have hts : ∀ h : i < from'.length, Hid (cat f (from'.take (i + 1)) = ap ++ f from'[i]) := fun h => ⟨by rw [cat_take h, ← h']⟩
  rcases ap with _ | ⟨a0, ap⟩
  all_goals simp
  · (first | refine ifL_cases (fun h => ?_) (fun h => ?_) | refine gI_cases' (fun h => ?_) (fun h => ?_) | refine gI_cases (fun h => ?_) (fun h => ?_) | refine dI_cases' (fun h => ?_) (fun h => ?_) | refine dI_cases (fun h => ?_) (fun h => ?_)) <;> first | replace h := of_decide_eq_true h | replace h := of_decide_eq_false h | skip
    · have hv := insR_all hin from'[i] (List.getElem_mem h)
      have hq := fun b => p2 b from'[i] hv
      have hf1 := hw from'[i] hv
      have hx := hts h
      generalize waysL n l he [from'[i]] [] = ws at *
      have hW : tolA ([]) ws 20 = cat f (from'.take (i + 1)) := by rw [hx.out, hf1, tolA_eq]
      clear hts
      generalize hWe : cat f (from'.take (i + 1)) = w at hW
      simp [hq, h]
      refine (loop_to (s0 := ?s3) (fun y => 20 - y.1) (fun y => [(5, .ref 18 0 (from'.length + y.2.length)), (25, jkA 18 from'.length y.2), (35, (.pv false (.sc (.int .i64 ((y.1 : Nat))))))]) (fun y => [(16, .box [(.pv false (.sc (.int .i64 ((n : Nat))))), .pv b (.sl (eds l))]), (18, .row .own 3 1 (nums .i64 (from' ++ y.2)))]) (fun y K => K [(5, .ref 18 0 (from'.length + w.length)), (25, jkA 18 from'.length w), (35, (.pv false (.sc (.int .i64 20))))] ([(16, .box [(.pv false (.sc (.int .i64 ((n : Nat))))), .pv b (.sl (eds l))]), (18, .row .own 3 1 (nums .i64 (from' ++ w)))])) (fun y => y.1 ≤ 20 ∧ Hid (y.2 = tolA ([]) ws y.1)) ((0 : Nat), ([])) ?hc3 ?h03 ?hs3 ?step3).trans ?r3
      case hc3 => simp; rfl
      case h03 => first | (simp; done) | (simp [*]; done) | exact ⟨by simp, ⟨rfl⟩⟩ | grind | (simp; omega)
      case hs3 => first | (simp; done) | (simp [*]; done)
      case r3 =>
        rcases w with _ | ⟨w0, w⟩
        all_goals simp
        all_goals try simp (disch := omega) only [wrap_id']
        · refine (ih.out (i + 1, []) _ ?_ ?_ ?_).trans ?_
          · simp; omega
          · exact ⟨by simp; omega, ⟨hWe.symm⟩⟩
          · simp
          · rfl
        · refine (ih.out (i + 1, w0 :: w) _ ?_ ?_ ?_).trans ?_
          · simp; omega
          · exact ⟨by simp; omega, ⟨hWe.symm⟩⟩
          · simp
          · rfl
      clear ih
      rintro k ⟨j, o⟩ ⟨hj, ho⟩ ih
      have ho' : o = tolA ([]) ws j := ho.out
      have hol := tolA_len ([]) ws j
      rw [← ho'] at hol
      simp at hj hol
      try simp at hlen2
      have g5 : (from'.length + o.length + 1) * 8 ≤ Pm.roomBytes := by unfold Pm.roomBytes; omega
      have g6 : from'.length + o.length + 1 ≤ 9223372036854775807 := by omega
      have hn : tolA ([]) ws (j + 1) = o ++ (bif hasI ws j then [(j : Int)] else []) := by rw [ho']; rfl
      have hend : j = 20 → w = o := fun e => by rw [ho', e, hW]
      clear hol ho'
      rcases o with _ | ⟨b0, o⟩
      all_goals simp
      all_goals simp at g5 g6
      · (first | refine ifL_cases (fun h => ?_) (fun h => ?_) | refine gI_cases' (fun h => ?_) (fun h => ?_) | refine gI_cases (fun h => ?_) (fun h => ?_) | refine dI_cases' (fun h => ?_) (fun h => ?_) | refine dI_cases (fun h => ?_) (fun h => ?_)) <;> first | replace h := of_decide_eq_true h | replace h := of_decide_eq_false h | skip
        · have c20 : j < 20 ∧ (j : Int) < 20 := by omega
          simp [c20]
          (first | refine ifL_cases (fun h => ?_) (fun h => ?_) | refine gI_cases' (fun h => ?_) (fun h => ?_) | refine gI_cases (fun h => ?_) (fun h => ?_) | refine dI_cases' (fun h => ?_) (fun h => ?_) | refine dI_cases (fun h => ?_) (fun h => ?_)) <;> first | replace h := of_decide_eq_true h | replace h := of_decide_eq_false h | skip
          · simp [h] at hn
            simp [g5, g6]
            refine (ih.out (j + 1, [(j : Int)]) _ ?_ ?_ ?_).trans ?_
            · simp; omega
            · exact ⟨by simp; omega, ⟨hn.symm⟩⟩
            · simp
              try simp (disch := omega) only [wrap_id']
            · rfl
          · simp [h] at hn
            simp
            refine (ih.out (j + 1, []) _ ?_ ?_ ?_).trans ?_
            · simp; omega
            · exact ⟨by simp; omega, ⟨hn.symm⟩⟩
            · simp
              try simp (disch := omega) only [wrap_id']
            · rfl
        · have e : j = 20 := by omega
          have e2 := hend e
          subst e e2
          simp
      · (first | refine ifL_cases (fun h => ?_) (fun h => ?_) | refine gI_cases' (fun h => ?_) (fun h => ?_) | refine gI_cases (fun h => ?_) (fun h => ?_) | refine dI_cases' (fun h => ?_) (fun h => ?_) | refine dI_cases (fun h => ?_) (fun h => ?_)) <;> first | replace h := of_decide_eq_true h | replace h := of_decide_eq_false h | skip
        · have c20 : j < 20 ∧ (j : Int) < 20 := by omega
          simp [c20]
          (first | refine ifL_cases (fun h => ?_) (fun h => ?_) | refine gI_cases' (fun h => ?_) (fun h => ?_) | refine gI_cases (fun h => ?_) (fun h => ?_) | refine dI_cases' (fun h => ?_) (fun h => ?_) | refine dI_cases (fun h => ?_) (fun h => ?_)) <;> first | replace h := of_decide_eq_true h | replace h := of_decide_eq_false h | skip
          · simp [h] at hn
            simp [g5, g6]
            have ht : List.take (from'.length + (o.length + 1)) (from' ++ b0 :: o) = from' ++ b0 :: o := List.take_of_length_le (by simp)
            refine (ih.out (j + 1, b0 :: (o ++ [(j : Int)])) _ ?_ ?_ ?_).trans ?_
            · simp; omega
            · exact ⟨by simp; omega, ⟨hn.symm⟩⟩
            · simp [ht]
              try simp (disch := omega) only [wrap_id']
              exact ⟨by omega, trivial⟩
            · rfl
          · simp [h] at hn
            simp
            refine (ih.out (j + 1, b0 :: o) _ ?_ ?_ ?_).trans ?_
            · simp; omega
            · exact ⟨by simp; omega, ⟨hn.symm⟩⟩
            · simp
              try simp (disch := omega) only [wrap_id']
            · rfl
        · have e : j = 20 := by omega
          have e2 := hend e
          subst e e2
          simp
    · have e : i = from'.length := by omega
      subst e
      have hx : cat f from' = [] := by simpa using h'.symm
      simp [hx]
  · (first | refine ifL_cases (fun h => ?_) (fun h => ?_) | refine gI_cases' (fun h => ?_) (fun h => ?_) | refine gI_cases (fun h => ?_) (fun h => ?_) | refine dI_cases' (fun h => ?_) (fun h => ?_) | refine dI_cases (fun h => ?_) (fun h => ?_)) <;> first | replace h := of_decide_eq_true h | replace h := of_decide_eq_false h | skip
    · have hv := insR_all hin from'[i] (List.getElem_mem h)
      have hq := fun b => p2 b from'[i] hv
      have hf1 := hw from'[i] hv
      have hx := hts h
      generalize waysL n l he [from'[i]] [] = ws at *
      have hW : tolA (a0 :: ap) ws 20 = cat f (from'.take (i + 1)) := by rw [hx.out, hf1, tolA_eq]
      clear hts
      generalize hWe : cat f (from'.take (i + 1)) = w at hW
      simp [hq, h]
      refine (loop_to (s0 := ?s4) (fun y => 20 - y.1) (fun y => [(5, .ref 18 0 (from'.length + y.2.length)), (25, jkA 18 from'.length y.2), (35, (.pv false (.sc (.int .i64 ((y.1 : Nat))))))]) (fun y => [(16, .box [(.pv false (.sc (.int .i64 ((n : Nat))))), .pv b (.sl (eds l))]), (18, .row .own 3 1 (nums .i64 (from' ++ y.2)))]) (fun y K => K [(5, .ref 18 0 (from'.length + w.length)), (25, jkA 18 from'.length w), (35, (.pv false (.sc (.int .i64 20))))] ([(16, .box [(.pv false (.sc (.int .i64 ((n : Nat))))), .pv b (.sl (eds l))]), (18, .row .own 3 1 (nums .i64 (from' ++ w)))])) (fun y => y.1 ≤ 20 ∧ Hid (y.2 = tolA (a0 :: ap) ws y.1)) ((0 : Nat), (a0 :: ap)) ?hc4 ?h04 ?hs4 ?step4).trans ?r4
      case hc4 => simp; rfl
      case h04 => first | (simp; done) | (simp [*]; done) | exact ⟨by simp, ⟨rfl⟩⟩ | grind | (simp; omega)
      case hs4 => first | (simp; done) | (simp [*]; done)
      case r4 =>
        rcases w with _ | ⟨w0, w⟩
        all_goals simp
        all_goals try simp (disch := omega) only [wrap_id']
        · refine (ih.out (i + 1, []) _ ?_ ?_ ?_).trans ?_
          · simp; omega
          · exact ⟨by simp; omega, ⟨hWe.symm⟩⟩
          · simp
          · rfl
        · refine (ih.out (i + 1, w0 :: w) _ ?_ ?_ ?_).trans ?_
          · simp; omega
          · exact ⟨by simp; omega, ⟨hWe.symm⟩⟩
          · simp
          · rfl
      clear ih
      rintro k ⟨j, o⟩ ⟨hj, ho⟩ ih
      have ho' : o = tolA (a0 :: ap) ws j := ho.out
      have hol := tolA_len (a0 :: ap) ws j
      rw [← ho'] at hol
      simp at hj hol
      try simp at hlen2
      have g5 : (from'.length + o.length + 1) * 8 ≤ Pm.roomBytes := by unfold Pm.roomBytes; omega
      have g6 : from'.length + o.length + 1 ≤ 9223372036854775807 := by omega
      have hn : tolA (a0 :: ap) ws (j + 1) = o ++ (bif hasI ws j then [(j : Int)] else []) := by rw [ho']; rfl
      have hend : j = 20 → w = o := fun e => by rw [ho', e, hW]
      clear hol ho'
      rcases o with _ | ⟨b0, o⟩
      all_goals simp
      all_goals simp at g5 g6
      · (first | refine ifL_cases (fun h => ?_) (fun h => ?_) | refine gI_cases' (fun h => ?_) (fun h => ?_) | refine gI_cases (fun h => ?_) (fun h => ?_) | refine dI_cases' (fun h => ?_) (fun h => ?_) | refine dI_cases (fun h => ?_) (fun h => ?_)) <;> first | replace h := of_decide_eq_true h | replace h := of_decide_eq_false h | skip
        · have c20 : j < 20 ∧ (j : Int) < 20 := by omega
          simp [c20]
          (first | refine ifL_cases (fun h => ?_) (fun h => ?_) | refine gI_cases' (fun h => ?_) (fun h => ?_) | refine gI_cases (fun h => ?_) (fun h => ?_) | refine dI_cases' (fun h => ?_) (fun h => ?_) | refine dI_cases (fun h => ?_) (fun h => ?_)) <;> first | replace h := of_decide_eq_true h | replace h := of_decide_eq_false h | skip
          · simp [h] at hn
            simp [g5, g6]
            refine (ih.out (j + 1, [(j : Int)]) _ ?_ ?_ ?_).trans ?_
            · simp; omega
            · exact ⟨by simp; omega, ⟨hn.symm⟩⟩
            · simp
              try simp (disch := omega) only [wrap_id']
            · rfl
          · simp [h] at hn
            simp
            refine (ih.out (j + 1, []) _ ?_ ?_ ?_).trans ?_
            · simp; omega
            · exact ⟨by simp; omega, ⟨hn.symm⟩⟩
            · simp
              try simp (disch := omega) only [wrap_id']
            · rfl
        · have e : j = 20 := by omega
          have e2 := hend e
          subst e e2
          simp
      · (first | refine ifL_cases (fun h => ?_) (fun h => ?_) | refine gI_cases' (fun h => ?_) (fun h => ?_) | refine gI_cases (fun h => ?_) (fun h => ?_) | refine dI_cases' (fun h => ?_) (fun h => ?_) | refine dI_cases (fun h => ?_) (fun h => ?_)) <;> first | replace h := of_decide_eq_true h | replace h := of_decide_eq_false h | skip
        · have c20 : j < 20 ∧ (j : Int) < 20 := by omega
          simp [c20]
          (first | refine ifL_cases (fun h => ?_) (fun h => ?_) | refine gI_cases' (fun h => ?_) (fun h => ?_) | refine gI_cases (fun h => ?_) (fun h => ?_) | refine dI_cases' (fun h => ?_) (fun h => ?_) | refine dI_cases (fun h => ?_) (fun h => ?_)) <;> first | replace h := of_decide_eq_true h | replace h := of_decide_eq_false h | skip
          · simp [h] at hn
            simp [g5, g6]
            have ht : List.take (from'.length + (o.length + 1)) (from' ++ b0 :: o) = from' ++ b0 :: o := List.take_of_length_le (by simp)
            refine (ih.out (j + 1, b0 :: (o ++ [(j : Int)])) _ ?_ ?_ ?_).trans ?_
            · simp; omega
            · exact ⟨by simp; omega, ⟨hn.symm⟩⟩
            · simp [ht]
              try simp (disch := omega) only [wrap_id']
              exact ⟨by omega, trivial⟩
            · rfl
          · simp [h] at hn
            simp
            refine (ih.out (j + 1, b0 :: o) _ ?_ ?_ ?_).trans ?_
            · simp; omega
            · exact ⟨by simp; omega, ⟨hn.symm⟩⟩
            · simp
              try simp (disch := omega) only [wrap_id']
            · rfl
        · have e : j = 20 := by omega
          have e2 := hend e
          subst e e2
          simp
    · have e : i = from'.length := by omega
      subst e
      have hx : cat f from' = a0 :: ap := by simpa using h'.symm
      simp [hx]
theorem p44 (b b' : Bool) (n : Nat) (l : List Ed) (from' : List Int) (f : Int → List Int) (hn : n ≤ 20) (hl : l.length ≤ 400) (hf : from'.length ≤ 20) (hg : gOk n l = true) (he : ∀ e ∈ l, edIn n e = true) (hin : insR n from' = true) (hfl : ∀ v, (f v).length ≤ 20) (hw : ∀ (v : Int) (h : 0 ≤ v ∧ v < n), f v = told (waysL n l he [v] []) 20) : phi C0 (lim C0) 44 [grTV b n l, .pv b' (.sl (nums .i64 from'))] [] = some (.ref 16 0 (cptI (sortI (from' ++ cat f from'))).length, [(16, .row .own 3 1 (nums .i64 (cptI (sortI (from' ++ cat f from')))))]) := call0 Try.func44 (by kernel_rfl) (e44 Try.f44 Try.results44 b b' n l from' f hn hl hf hg he hin hfl hw)
end Go.Proofs.Ytopoaemlbnkhgaa
