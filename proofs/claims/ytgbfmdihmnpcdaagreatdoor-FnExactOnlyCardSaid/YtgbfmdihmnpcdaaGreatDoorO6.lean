/- Only, by the reference: what is kept. -/
import Derived.Test.YtgbfmdihmnpcdaaGreatDoorV10
import Derived.Test.YtgbfmdihmnpcdaaGreatDoorO4
namespace Go.Proofs.YtgbfmdihmnpcdaaGreatDoor
open Go Go.Pm Go.Proofs
set_option linter.unusedVariables false
set_option linter.unusedSimpArgs false
set_option maxRecDepth 100000
set_option maxHeartbeats 4000000
def bls (n : Nat) (K : Nat → Bool) : List (List PV) := (List.range n).map fun t => [.sc (.bool (K t))]
@[simp] theorem bls_len (n : Nat) (K : Nat → Bool) : (bls n K).length = n := by simp [bls]
theorem bls_at {n : Nat} {K : Nat → Bool} {i : Nat} (h : i < n) : (bls n K)[i]? = some [.sc (.bool (K i))] := by simp [bls, h]
@[simp] theorem bls_get {n : Nat} {K : Nat → Bool} {i : Nat} (h : i < (bls n K).length) : (bls n K)[i]'h = [.sc (.bool (K i))] := by simp [bls]
theorem bls_set {n : Nat} (K : Nat → Bool) {i : Nat} : (bls n K).set i [.sc (.bool true)] = bls n (fun t => K t || decide (t = i)) := by
  apply List.ext_getElem?
  intro t
  rw [List.getElem?_set]
  by_cases h : t < n
  · by_cases e : i = t
    · subst e
      rw [if_pos rfl, if_pos (by simpa using h), bls_at h]; simp
    · rw [if_neg e, bls_at h, bls_at h]
      simp [show ¬ t = i from fun h => e h.symm]
  · have h1 : (bls n K)[t]? = none := by rw [List.getElem?_eq_none]; simp; omega
    have h2 : (bls n (fun t => K t || decide (t = i)))[t]? = none := by rw [List.getElem?_eq_none]; simp; omega
    rw [h1, h2]
    simp
    omega
theorem bls_nil (n : Nat) : bls n (fun _ => false) = List.replicate n [.sc (.bool false)] := by
  apply List.ext_getElem?
  intro t
  by_cases h : t < n
  · rw [bls_at h]; simp [h]
  · rw [List.getElem?_eq_none (by simp; omega), List.getElem?_eq_none (by simp; omega)]
theorem bls_same {n : Nat} {K K' : Nat → Bool} (h : ∀ t, t < n → K t = K' t) : bls n K = bls n K' := by
  unfold bls
  exact List.map_congr_left fun t ht => by rw [h t (by simpa using ht)]
/-- Is this its address? -/
def eqA (l : List Act) (t : Nat) (d : List Int) : Bool := match l[t]? with
  | some a => decide (a.addr = d)
  | none => false
theorem eqA_at {l : List Act} {t : Nat} (h : t < l.length) (d : List Int) : eqA l t d = decide (l[t].addr = d) := by simp [eqA, h]
def mK (l : List Act) (i : Nat) (K0 : Nat → Bool) (deps : List (List Int)) (t : Nat) : Bool := K0 t || (decide (t < i) && anyB (fun d => eqA l t d) deps)
def jK (l : List Act) (j : Nat) (M : Nat → Bool) (d : List Int) (t : Nat) : Bool := M t || (decide (t < j) && eqA l t d)
def zK (l : List Act) (x : List Int) (i : Nat) (K : Nat → Bool) (t : Nat) : Bool := K t || (decide (t = i) && eqA l i x)
def stepK (l : List Act) (x : List Int) (i : Nat) (K : Nat → Bool) (t : Nat) : Bool := zK l x i K t || (zK l x i K i && (decide (t < i) && anyB (fun d => eqA l t d) (match l[i]? with | some a => a.deps | none => [])))
/-- What is kept behind so many steps, from the end. -/
def kp (l : List Act) (x : List Int) : Nat → (Nat → Bool)
  | 0 => fun _ => false
  | d + 1 => stepK l x (l.length - (d + 1)) (kp l x d)
/-- Those that are kept. -/
def flK (K : Nat → Bool) : List Act → Nat → List Act
  | [], _ => []
  | a :: l, i => if K i = true then a :: flK K l (i + 1) else flK K l (i + 1)
@[simp] theorem mK_nil {l : List Act} {i : Nat} {K0 : Nat → Bool} : mK l i K0 [] = K0 := by funext t; simp [mK, anyB]
theorem jK_end {l : List Act} {i k : Nat} {K0 : Nat → Bool} {deps : List (List Int)} (h : k < deps.length) : jK l i (mK l i K0 (deps.take k)) deps[k] = mK l i K0 (deps.take (k + 1)) := by
  funext t
  rw [List.take_succ_eq_append_getElem h]
  have e : ∀ (a b : List (List Int)), anyB (fun d => eqA l t d) (a ++ b) = (anyB (fun d => eqA l t d) a || anyB (fun d => eqA l t d) b) := fun a b => by
    induction a with
    | nil => simp [anyB]
    | cons y a ih => simp [anyB, ih, Bool.or_assoc]
  simp only [jK, mK, e, anyB, Bool.or_false]
  cases K0 t <;> cases decide (t < i) <;> simp
@[simp] theorem jK_zero {l : List Act} {M : Nat → Bool} {d : List Int} : jK l 0 M d = M := by funext t; simp [jK]
theorem jK_step {l : List Act} {j : Nat} {M : Nat → Bool} {d : List Int} (h : eqA l j d = true) : (fun t => jK l j M d t || decide (t = j)) = jK l (j + 1) M d := by
  funext t
  simp only [jK]
  by_cases e : t = j
  · subst e; simp [h]
  · have : decide (t < j + 1) = decide (t < j) := by simp; omega
    simp [e, this]
theorem jK_skip {l : List Act} {j : Nat} {M : Nat → Bool} {d : List Int} (h : eqA l j d = false) : jK l j M d = jK l (j + 1) M d := by
  funext t
  simp only [jK]
  by_cases e : t = j
  · subst e; simp [h]
  · have : decide (t < j + 1) = decide (t < j) := by simp; omega
    simp [this]
theorem flK_at {l : List Act} (K : Nat → Bool) {i : Nat} (h : i < l.length) : flK K (l.drop i) i = if K i = true then l[i] :: flK K (l.drop (i + 1)) (i + 1) else flK K (l.drop (i + 1)) (i + 1) := by rw [drop_at h]; rfl
theorem mK_i {l : List Act} {i : Nat} {K0 : Nat → Bool} {deps : List (List Int)} : mK l i K0 deps i = K0 i := by simp [mK]
theorem p25 (b b2 : Bool) (l : List Act) (same : Int) (x : List Int) (hl : l.length ≤ 1048576) (ha : ∀ a ∈ l, AOk a) (hx : byteOk x = true) : phi C0 (lim C0) 25 [.ag [.pv b (.sl (rws aP l)), (.pv false (.sc (.int .i64 same)))], .pv b2 (.sl (nums .u8 x))] [] = some (.ag [.pv false (.sl (rws aP (flK (kp l x l.length) l 0))), (.pv false (.sc (.int .i64 same)))], []) := call0 Tryz.func25 (by kernel_rfl) ((show ∀ fn : Func, fn.results = #[.cell 4 29] → globs fn = [0, 2, 6, 21, 1, 7, 34, 5, 8, 48, 9, 53, 69, 11, 80, 86, 10, 4] → lim C0 25 fn [.c (code Tryz.f25)] ⟨_, _⟩ = _ from fun fn hr hg => by
  have hp14 := plan25_14
  simp [opsOf, code, Tryz.f25] at hp14
  have hp21 := plan25_21
  simp [opsOf, code, Tryz.f25] at hp21
  have g1 : l.length ≤ Pm.roomBytes := by unfold Pm.roomBytes; omega
  have g2 : (l.length : Int) ≤ 9223372036854775807 := by omega
  have hn := bls_nil l.length
  simp [code, Tryz.f25, hr, hg, hp14, hp21, g1, g2]
  try simp (disch := omega) only [wrap_id']
  rw [← hn]
  have hn0 : (fun _ => false) = kp l x 0 := rfl
  rw [hn0]
  refine (loop_to (s0 := ?s1) (fun m => m) (fun m => [(6, (.pv false (.sc (.int .i64 ((m : Nat) - 1)))))]) (fun m => [(16, .box [.pv b (.sl (rws aP l)), (.pv false (.sc (.int .i64 same)))]), (18, .box [.nl, (.pv false (.sc (.int .i64 0)))]), (20, .row .own 4 1 (bls l.length (kp l x (l.length - m))))]) (fun m K => K [(6, (.pv false (.sc (.int .i64 (-1)))))] [(16, .box [.pv b (.sl (rws aP l)), (.pv false (.sc (.int .i64 same)))]), (18, .box [.nl, (.pv false (.sc (.int .i64 0)))]), (20, .row .own 4 1 (bls l.length (kp l x l.length)))]) (fun m => m ≤ l.length) l.length ?hc1 ?h01 ?hs1 ?step1).trans ?r1
  case hc1 => simp; rfl
  case h01 => first | (simp; done) | (simp [*]; done) | exact ⟨by simp, ⟨rfl⟩⟩ | grind | (simp; omega)
  case hs1 => first | (simp; done) | (simp [*]; done)
  case r1 =>
    generalize hKK : kp l x l.length = KK
    have hbk := fun i (h : i < l.length) => bls_at (K := KK) h
    simp [hr, hg, hp14, hp21]
    refine (loop_to (s0 := ?s2) (fun y => l.length - y.1) (fun y => [(11, (.pv false (.sc (.int .i64 ((y.1 : Nat))))))]) (fun y => [(16, .box [.pv b (.sl (rws aP l)), (.pv false (.sc (.int .i64 same)))]), (18, .box [.nl, (.pv false (.sc (.int .i64 0)))]), (20, .row .own 4 1 (bls l.length KK)), (22, .box [slT 24 y.2, (.pv false (.sc (.int .i64 same)))])] ++ slH 24 69 9 aP y.2) (fun y K => K [(11, (.pv false (.sc (.int .i64 l.length))))] ([(16, .box [.pv b (.sl (rws aP l)), (.pv false (.sc (.int .i64 same)))]), (18, .box [.nl, (.pv false (.sc (.int .i64 0)))]), (20, .row .own 4 1 (bls l.length KK)), (22, .box [slT 24 (flK KK l 0), (.pv false (.sc (.int .i64 same)))])] ++ slH 24 69 9 aP (flK KK l 0))) (fun y => y.1 ≤ l.length ∧ y.2.length ≤ y.1 ∧ y.2 ++ flK KK (l.drop y.1) y.1 = flK KK l 0) (0, ([] : List Act)) ?hc2 ?h02 ?hs2 ?step2).trans ?r2
    case hc2 => simp; rfl
    case h02 => first | (simp; done) | (simp [*]; done) | exact ⟨by simp, ⟨rfl⟩⟩ | grind | (simp; omega)
    case hs2 => first | (simp; done) | (simp [*]; done)
    case r2 =>
      cases hq : flK KK l 0 with
      | nil => simp [hg, rws, hr, hg, hp14, hp21]
      | cons a0 al => simp [hg, rws, hr, hg, hp14, hp21]; exact List.take_of_length_le (by simp [hg])
    rintro K ⟨i, acc⟩ ⟨hi, hln, hac⟩ ih
    simp at hi hac hln
    simp [hg]
    by_cases h : i < l.length
    · have hat := flK_at KK h
      have hb := hbk i h
      cases hk : KK i with
      | false =>
        simp [hg, hk] at hat
        rw [hat] at hac
        rcases acc with _ | ⟨a0, acc⟩
        · simp [hg, h, hb, hk, hr, hg, hp14, hp21]
          try simp (disch := omega) only [wrap_id']
          refine (ih.out (i + 1, []) _ ?_ ?_ ?_).trans ?_
          · simp [hg]; omega
          · exact ⟨by simp [hg]; omega, by simp [hg], by simpa using hac⟩
          · simp [hg]
          · rfl
        · simp [hg, h, hb, hk, hr, hg, hp14, hp21]
          try simp (disch := omega) only [wrap_id']
          refine (ih.out (i + 1, a0 :: acc) _ ?_ ?_ ?_).trans ?_
          · simp [hg]; omega
          · exact ⟨by simp [hg]; omega, by simp at hln ⊢; omega, by simpa using hac⟩
          · simp [hg]
          · rfl
      | true =>
        simp [hg, hk] at hat
        rw [hat] at hac
        have e5 : (acc ++ [l[i]]) ++ flK KK (l.drop (i + 1)) (i + 1) = flK KK l 0 := by rw [List.append_assoc]; exact hac
        have g5 : ∀ acc : List Act, (∀ (r : List PV), r ∈ rws aP acc → r.length = 9) = True := fun acc => eq_true (rws_all _ _ fun _ => by simp [hg])
        have m3 : (acc.length + 1) * 152 ≤ Pm.roomBytes := by unfold Pm.roomBytes; omega
        have m4 : acc.length + 1 ≤ Pm.maxL := by unfold Pm.maxL; omega
        have g6 : ∀ n : Nat, Spare n n = False := fun n => by simp [hg, Spare]
        rcases acc with _ | ⟨a0, acc⟩
        · simp at m3 m4 e5
          simp [hg, h, hb, hk, m3, m4, hr, hg, hp14, hp21]
          try simp (disch := omega) only [wrap_id']
          refine (ih.out (i + 1, [l[i]]) _ ?_ ?_ ?_).trans ?_
          · simp [hg]; omega
          · exact ⟨by simp [hg]; omega, by simp [hg], by simpa using e5⟩
          · simp [hg, rws]
          · rfl
        · simp at m3 m4 e5
          simp [hg, h, hb, hk, m3, m4, g5, g6, hr, hg, hp14, hp21]
          try simp (disch := omega) only [wrap_id']
          refine (ih.out (i + 1, a0 :: (acc ++ [l[i]])) _ ?_ ?_ ?_).trans ?_
          · simp [hg]; omega
          · exact ⟨by simp [hg]; omega, by simp at hln ⊢; omega, by simpa using e5⟩
          · simp [hg, rws]
          · rfl
    · have e : i = l.length := by omega
      subst e
      simp [hg, flK] at hac
      subst hac
      cases hq : flK KK l 0 <;> simp [hg, hq]
  intro K m hm ih
  rcases m with _ | i
  · simp [hg]
  have hlt : i < l.length := by omega
  have e0 : ((i + 1 : Nat) : Int) - 1 = (i : Int) := by omega
  simp only [e0]
  have hi := ha _ (List.getElem_mem hlt)
  have q1 := bin_eql (tk := .str) hi.addrB hx
  obtain ⟨K0, hK0⟩ : ∃ K0, K0 = kp l x (l.length - (i + 1)) := ⟨_, rfl⟩
  have hstep : kp l x (l.length - i) = stepK l x i K0 := by
    have e1 : l.length - i = (l.length - (i + 1)) + 1 := by omega
    have e2 : l.length - (l.length - (i + 1) + 1) = i := by omega
    rw [e1, kp, e2, ← hK0]
  rw [← hK0]
  have hz1 : l[i].addr = x → (bls l.length K0).set i [.sc (.bool true)] = bls l.length (zK l x i K0) := fun h => by
    rw [bls_set]
    exact bls_same fun t _ => by simp [hg, zK, eqA_at hlt, h]
  have hz2 : ¬ l[i].addr = x → bls l.length K0 = bls l.length (zK l x i K0) := fun h => bls_same fun t _ => by simp [hg, zK, eqA_at hlt, h]
  have hbi := fun K => bls_at (K := K) hlt
  have main : ∀ Z : Nat → Bool, Z = zK l x i K0 → bls l.length (stepK l x i K0) = if Z i = true then bls l.length (mK l i Z l[i].deps) else bls l.length Z := fun Z hZ => by
    subst hZ
    by_cases hc : zK l x i K0 i = true
    · rw [if_pos hc]
      exact bls_same fun t _ => by simp [hg, stepK, mK, hc, List.getElem?_eq_getElem hlt]
    · rw [if_neg hc]
      exact bls_same fun t _ => by simp [hg, stepK, hc]
  generalize hZ : zK l x i K0 = Z at hz1 hz2
  replace main := main Z hZ.symm
  simp [hg, hlt, q1]
  refine ifL_cases (fun h => ?_) (fun h => ?_)
  · replace h := of_decide_eq_true h
    replace hz1 := hz1 h
    simp [hg, hlt, hbi, hz1]
    clear hz1 hz2 h q1
    by_cases hzi : Z i = true
    · refine (loop_to (s0 := ?s3) (fun k => l[i].deps.length - k) (fun k => [(8, (.pv false (.sc (.int .i64 ((k : Nat))))))]) (fun k => [(16, .box [.pv b (.sl (rws aP l)), (.pv false (.sc (.int .i64 same)))]), (18, .box [.nl, (.pv false (.sc (.int .i64 0)))]), (20, .row .own 4 1 (bls l.length (mK l i Z (l[i].deps.take k)))), (22, .box [(.pv false (.sc (.int .i64 (l[i].act)))), .pv false (.sl (nums .u8 l[i].addr)), (.pv false (.sc (.int .i64 (l[i].item)))), (.pv false (.sc (.int .i64 (l[i].val.kind)))), (.pv false (.sc (.int .i64 (l[i].val.n)))), .pv false (.sl (nums .u8 l[i].val.s)), .pv false (.sl (rws byP l[i].val.k)), .pv false (.sl (rws vP l[i].val.l)), .pv false (.sl (rws byP l[i].deps))])]) (fun k K => K [(8, (.pv false (.sc (.int .i64 (l[i].deps.length)))))] [(16, .box [.pv b (.sl (rws aP l)), (.pv false (.sc (.int .i64 same)))]), (18, .box [.nl, (.pv false (.sc (.int .i64 0)))]), (20, .row .own 4 1 (bls l.length (mK l i Z l[i].deps))), (22, .box [(.pv false (.sc (.int .i64 (l[i].act)))), .pv false (.sl (nums .u8 l[i].addr)), (.pv false (.sc (.int .i64 (l[i].item)))), (.pv false (.sc (.int .i64 (l[i].val.kind)))), (.pv false (.sc (.int .i64 (l[i].val.n)))), .pv false (.sl (nums .u8 l[i].val.s)), .pv false (.sl (rws byP l[i].val.k)), .pv false (.sl (rws vP l[i].val.l)), .pv false (.sl (rws byP l[i].deps))])]) (fun k => k ≤ l[i].deps.length) 0 ?hc3 ?h03 ?hs3 ?step3).trans ?r3
      case hc3 => simp; rfl
      case h03 => first | (simp; done) | (simp [*]; done) | exact ⟨by simp, ⟨rfl⟩⟩ | grind | (simp; omega)
      case hs3 => first | (simp; done) | (simp [*]; done)
      case r3 =>
        simp [hg, hlt, hr, hg, hp14, hp21]
        try simp (disch := omega) only [wrap_id']
        refine (ih.out i _ ?_ ?_ ?_).trans ?_
        · omega
        · omega
        · simp [hg, hstep, main, hzi]
        · rfl
      intro K2 k hk ih2
      simp [hg, hlt]
      by_cases hk2 : k < l[i].deps.length
      · have hd : byteOk l[i].deps[k] = true := hi.db _ (List.getElem_mem hk2)
        simp [hg, hk2, hlt, hbi, hzi, mK_i, hr, hg, hp14, hp21]
        refine (loop_to (s0 := ?s4) (fun j => i - j) (fun j => [(9, (.pv false (.sc (.int .i64 ((j : Nat))))))]) (fun j => [(16, .box [.pv b (.sl (rws aP l)), (.pv false (.sc (.int .i64 same)))]), (18, .box [.nl, (.pv false (.sc (.int .i64 0)))]), (20, .row .own 4 1 (bls l.length (jK l j (mK l i Z (l[i].deps.take k)) l[i].deps[k]))), (22, .box [(.pv false (.sc (.int .i64 (l[i].act)))), .pv false (.sl (nums .u8 l[i].addr)), (.pv false (.sc (.int .i64 (l[i].item)))), (.pv false (.sc (.int .i64 (l[i].val.kind)))), (.pv false (.sc (.int .i64 (l[i].val.n)))), .pv false (.sl (nums .u8 l[i].val.s)), .pv false (.sl (rws byP l[i].val.k)), .pv false (.sl (rws vP l[i].val.l)), .pv false (.sl (rws byP l[i].deps))])]) (fun j K => K [(9, (.pv false (.sc (.int .i64 ((i : Nat))))))] [(16, .box [.pv b (.sl (rws aP l)), (.pv false (.sc (.int .i64 same)))]), (18, .box [.nl, (.pv false (.sc (.int .i64 0)))]), (20, .row .own 4 1 (bls l.length (mK l i Z (l[i].deps.take (k + 1))))), (22, .box [(.pv false (.sc (.int .i64 (l[i].act)))), .pv false (.sl (nums .u8 l[i].addr)), (.pv false (.sc (.int .i64 (l[i].item)))), (.pv false (.sc (.int .i64 (l[i].val.kind)))), (.pv false (.sc (.int .i64 (l[i].val.n)))), .pv false (.sl (nums .u8 l[i].val.s)), .pv false (.sl (rws byP l[i].val.k)), .pv false (.sl (rws vP l[i].val.l)), .pv false (.sl (rws byP l[i].deps))])]) (fun j => j ≤ i) 0 ?hc4 ?h04 ?hs4 ?step4).trans ?r4
        case hc4 => simp; rfl
        case h04 => first | (simp; done) | (simp [*]; done) | exact ⟨by simp, ⟨rfl⟩⟩ | grind | (simp; omega)
        case hs4 => first | (simp; done) | (simp [*]; done)
        case r4 =>
          have w1 : IntKind.i64.wrap ((k : Int) + 1) = (k : Int) + 1 := by have := hi.dl.1; simp (disch := omega) only [wrap_id']
          simp [hg, w1, hr, hg, hp14, hp21]
          refine (ih2.out (k + 1) _ ?_ ?_ ?_).trans ?_
          · omega
          · omega
          · simp [hg]
          · rfl
        intro K3 j hj ih3
        simp [hg]
        by_cases hji : j < i
        · have hjl : j < l.length := by omega
          have q2 := bin_eql (tk := .str) (ha _ (List.getElem_mem hjl)).addrB hd
          have hbj := fun K => bls_at (K := K) hjl
          obtain ⟨M, hM⟩ : ∃ M, M = mK l i Z (l[i].deps.take k) := ⟨_, rfl⟩
          rw [← hM]
          have s1 : l[j].addr = l[i].deps[k] → (bls l.length (jK l j M l[i].deps[k])).set j [.sc (.bool true)] = bls l.length (jK l (j + 1) M l[i].deps[k]) := fun h => by
            rw [bls_set, jK_step (by rw [eqA_at hjl]; simpa using h)]
          have s2 : ¬ l[j].addr = l[i].deps[k] → bls l.length (jK l j M l[i].deps[k]) = bls l.length (jK l (j + 1) M l[i].deps[k]) := fun h => by
            rw [jK_skip (by rw [eqA_at hjl]; simpa using h)]
          simp [hg, hji, hjl, hk2, byP, q2, hr, hg, hp14, hp21]
          refine ifL_cases (fun h => ?_) (fun h => ?_)
          · replace h := of_decide_eq_true h
            replace s1 := s1 h
            clear s2 h q2
            simp [hg, hji, hjl, hk2, hbj, s1, hr, hg, hp14, hp21]
            try simp (disch := omega) only [wrap_id']
            refine (ih3.out (j + 1) _ ?_ ?_ ?_).trans ?_
            · omega
            · omega
            · simp [hg, ← hM]
            · rfl
          · replace h := of_decide_eq_false h
            replace s2 := s2 h
            clear s1 h q2
            simp [hg, hji, hjl, hk2, hbj, s2, hr, hg, hp14, hp21]
            try simp (disch := omega) only [wrap_id']
            refine (ih3.out (j + 1) _ ?_ ?_ ?_).trans ?_
            · omega
            · omega
            · simp [hg, ← hM]
            · rfl
        · have e : j = i := by omega
          subst e
          simp [hg, jK_end hk2]
      · have e : k = l[i].deps.length := by omega
        subst e
        simp [hg]
    · simp at hzi
      refine (loop_to (s0 := ?s5) (fun k => 0) (fun k => [(8, (.pv false (.sc (.int .i64 0))))]) (fun k => [(16, .box [.pv b (.sl (rws aP l)), (.pv false (.sc (.int .i64 same)))]), (18, .box [.nl, (.pv false (.sc (.int .i64 0)))]), (20, .row .own 4 1 (bls l.length (Z))), (22, .box [(.pv false (.sc (.int .i64 (l[i].act)))), .pv false (.sl (nums .u8 l[i].addr)), (.pv false (.sc (.int .i64 (l[i].item)))), (.pv false (.sc (.int .i64 (l[i].val.kind)))), (.pv false (.sc (.int .i64 (l[i].val.n)))), .pv false (.sl (nums .u8 l[i].val.s)), .pv false (.sl (rws byP l[i].val.k)), .pv false (.sl (rws vP l[i].val.l)), .pv false (.sl (rws byP l[i].deps))])]) (fun k K => K [(8, (.pv false (.sc (.int .i64 0))))] [(16, .box [.pv b (.sl (rws aP l)), (.pv false (.sc (.int .i64 same)))]), (18, .box [.nl, (.pv false (.sc (.int .i64 0)))]), (20, .row .own 4 1 (bls l.length (Z))), (22, .box [(.pv false (.sc (.int .i64 (l[i].act)))), .pv false (.sl (nums .u8 l[i].addr)), (.pv false (.sc (.int .i64 (l[i].item)))), (.pv false (.sc (.int .i64 (l[i].val.kind)))), (.pv false (.sc (.int .i64 (l[i].val.n)))), .pv false (.sl (nums .u8 l[i].val.s)), .pv false (.sl (rws byP l[i].val.k)), .pv false (.sl (rws vP l[i].val.l)), .pv false (.sl (rws byP l[i].deps))])]) (fun k => k = 0) 0 ?hc5 ?h05 ?hs5 ?step5).trans ?r5
      case hc5 => simp; rfl
      case h05 => first | (simp; done) | (simp [*]; done) | exact ⟨by simp, ⟨rfl⟩⟩ | grind | (simp; omega)
      case hs5 => first | (simp; done) | (simp [*]; done)
      case r5 =>
        simp [hg, hlt, hr, hg, hp14, hp21]
        try simp (disch := omega) only [wrap_id']
        refine (ih.out i _ ?_ ?_ ?_).trans ?_
        · omega
        · omega
        · simp [hg, hstep, main, hzi]
        · rfl
      intro K2 k hk ih2
      by_cases h0 : 0 < l[i].deps.length
      · simp [hg, h0, hlt, hbi, hzi, hr, hg, hp14, hp21]
      · simp [hg, h0, hlt, hbi, hzi, hr, hg, hp14, hp21]
  · replace h := of_decide_eq_false h
    replace hz2 := hz2 h
    simp [hg, hlt, hbi, hz2]
    clear hz1 hz2 h q1
    by_cases hzi : Z i = true
    · refine (loop_to (s0 := ?s6) (fun k => l[i].deps.length - k) (fun k => [(8, (.pv false (.sc (.int .i64 ((k : Nat))))))]) (fun k => [(16, .box [.pv b (.sl (rws aP l)), (.pv false (.sc (.int .i64 same)))]), (18, .box [.nl, (.pv false (.sc (.int .i64 0)))]), (20, .row .own 4 1 (bls l.length (mK l i Z (l[i].deps.take k)))), (22, .box [(.pv false (.sc (.int .i64 (l[i].act)))), .pv false (.sl (nums .u8 l[i].addr)), (.pv false (.sc (.int .i64 (l[i].item)))), (.pv false (.sc (.int .i64 (l[i].val.kind)))), (.pv false (.sc (.int .i64 (l[i].val.n)))), .pv false (.sl (nums .u8 l[i].val.s)), .pv false (.sl (rws byP l[i].val.k)), .pv false (.sl (rws vP l[i].val.l)), .pv false (.sl (rws byP l[i].deps))])]) (fun k K => K [(8, (.pv false (.sc (.int .i64 (l[i].deps.length)))))] [(16, .box [.pv b (.sl (rws aP l)), (.pv false (.sc (.int .i64 same)))]), (18, .box [.nl, (.pv false (.sc (.int .i64 0)))]), (20, .row .own 4 1 (bls l.length (mK l i Z l[i].deps))), (22, .box [(.pv false (.sc (.int .i64 (l[i].act)))), .pv false (.sl (nums .u8 l[i].addr)), (.pv false (.sc (.int .i64 (l[i].item)))), (.pv false (.sc (.int .i64 (l[i].val.kind)))), (.pv false (.sc (.int .i64 (l[i].val.n)))), .pv false (.sl (nums .u8 l[i].val.s)), .pv false (.sl (rws byP l[i].val.k)), .pv false (.sl (rws vP l[i].val.l)), .pv false (.sl (rws byP l[i].deps))])]) (fun k => k ≤ l[i].deps.length) 0 ?hc6 ?h06 ?hs6 ?step6).trans ?r6
      case hc6 => simp; rfl
      case h06 => first | (simp; done) | (simp [*]; done) | exact ⟨by simp, ⟨rfl⟩⟩ | grind | (simp; omega)
      case hs6 => first | (simp; done) | (simp [*]; done)
      case r6 =>
        simp [hg, hlt, hr, hg, hp14, hp21]
        try simp (disch := omega) only [wrap_id']
        refine (ih.out i _ ?_ ?_ ?_).trans ?_
        · omega
        · omega
        · simp [hg, hstep, main, hzi]
        · rfl
      intro K2 k hk ih2
      simp [hg, hlt]
      by_cases hk2 : k < l[i].deps.length
      · have hd : byteOk l[i].deps[k] = true := hi.db _ (List.getElem_mem hk2)
        simp [hg, hk2, hlt, hbi, hzi, mK_i, hr, hg, hp14, hp21]
        refine (loop_to (s0 := ?s7) (fun j => i - j) (fun j => [(9, (.pv false (.sc (.int .i64 ((j : Nat))))))]) (fun j => [(16, .box [.pv b (.sl (rws aP l)), (.pv false (.sc (.int .i64 same)))]), (18, .box [.nl, (.pv false (.sc (.int .i64 0)))]), (20, .row .own 4 1 (bls l.length (jK l j (mK l i Z (l[i].deps.take k)) l[i].deps[k]))), (22, .box [(.pv false (.sc (.int .i64 (l[i].act)))), .pv false (.sl (nums .u8 l[i].addr)), (.pv false (.sc (.int .i64 (l[i].item)))), (.pv false (.sc (.int .i64 (l[i].val.kind)))), (.pv false (.sc (.int .i64 (l[i].val.n)))), .pv false (.sl (nums .u8 l[i].val.s)), .pv false (.sl (rws byP l[i].val.k)), .pv false (.sl (rws vP l[i].val.l)), .pv false (.sl (rws byP l[i].deps))])]) (fun j K => K [(9, (.pv false (.sc (.int .i64 ((i : Nat))))))] [(16, .box [.pv b (.sl (rws aP l)), (.pv false (.sc (.int .i64 same)))]), (18, .box [.nl, (.pv false (.sc (.int .i64 0)))]), (20, .row .own 4 1 (bls l.length (mK l i Z (l[i].deps.take (k + 1))))), (22, .box [(.pv false (.sc (.int .i64 (l[i].act)))), .pv false (.sl (nums .u8 l[i].addr)), (.pv false (.sc (.int .i64 (l[i].item)))), (.pv false (.sc (.int .i64 (l[i].val.kind)))), (.pv false (.sc (.int .i64 (l[i].val.n)))), .pv false (.sl (nums .u8 l[i].val.s)), .pv false (.sl (rws byP l[i].val.k)), .pv false (.sl (rws vP l[i].val.l)), .pv false (.sl (rws byP l[i].deps))])]) (fun j => j ≤ i) 0 ?hc7 ?h07 ?hs7 ?step7).trans ?r7
        case hc7 => simp; rfl
        case h07 => first | (simp; done) | (simp [*]; done) | exact ⟨by simp, ⟨rfl⟩⟩ | grind | (simp; omega)
        case hs7 => first | (simp; done) | (simp [*]; done)
        case r7 =>
          have w1 : IntKind.i64.wrap ((k : Int) + 1) = (k : Int) + 1 := by have := hi.dl.1; simp (disch := omega) only [wrap_id']
          simp [hg, w1, hr, hg, hp14, hp21]
          refine (ih2.out (k + 1) _ ?_ ?_ ?_).trans ?_
          · omega
          · omega
          · simp [hg]
          · rfl
        intro K3 j hj ih3
        simp [hg]
        by_cases hji : j < i
        · have hjl : j < l.length := by omega
          have q2 := bin_eql (tk := .str) (ha _ (List.getElem_mem hjl)).addrB hd
          have hbj := fun K => bls_at (K := K) hjl
          obtain ⟨M, hM⟩ : ∃ M, M = mK l i Z (l[i].deps.take k) := ⟨_, rfl⟩
          rw [← hM]
          have s1 : l[j].addr = l[i].deps[k] → (bls l.length (jK l j M l[i].deps[k])).set j [.sc (.bool true)] = bls l.length (jK l (j + 1) M l[i].deps[k]) := fun h => by
            rw [bls_set, jK_step (by rw [eqA_at hjl]; simpa using h)]
          have s2 : ¬ l[j].addr = l[i].deps[k] → bls l.length (jK l j M l[i].deps[k]) = bls l.length (jK l (j + 1) M l[i].deps[k]) := fun h => by
            rw [jK_skip (by rw [eqA_at hjl]; simpa using h)]
          simp [hg, hji, hjl, hk2, byP, q2, hr, hg, hp14, hp21]
          refine ifL_cases (fun h => ?_) (fun h => ?_)
          · replace h := of_decide_eq_true h
            replace s1 := s1 h
            clear s2 h q2
            simp [hg, hji, hjl, hk2, hbj, s1, hr, hg, hp14, hp21]
            try simp (disch := omega) only [wrap_id']
            refine (ih3.out (j + 1) _ ?_ ?_ ?_).trans ?_
            · omega
            · omega
            · simp [hg, ← hM]
            · rfl
          · replace h := of_decide_eq_false h
            replace s2 := s2 h
            clear s1 h q2
            simp [hg, hji, hjl, hk2, hbj, s2, hr, hg, hp14, hp21]
            try simp (disch := omega) only [wrap_id']
            refine (ih3.out (j + 1) _ ?_ ?_ ?_).trans ?_
            · omega
            · omega
            · simp [hg, ← hM]
            · rfl
        · have e : j = i := by omega
          subst e
          simp [hg, jK_end hk2]
      · have e : k = l[i].deps.length := by omega
        subst e
        simp [hg]
    · simp at hzi
      refine (loop_to (s0 := ?s8) (fun k => 0) (fun k => [(8, (.pv false (.sc (.int .i64 0))))]) (fun k => [(16, .box [.pv b (.sl (rws aP l)), (.pv false (.sc (.int .i64 same)))]), (18, .box [.nl, (.pv false (.sc (.int .i64 0)))]), (20, .row .own 4 1 (bls l.length (Z))), (22, .box [(.pv false (.sc (.int .i64 (l[i].act)))), .pv false (.sl (nums .u8 l[i].addr)), (.pv false (.sc (.int .i64 (l[i].item)))), (.pv false (.sc (.int .i64 (l[i].val.kind)))), (.pv false (.sc (.int .i64 (l[i].val.n)))), .pv false (.sl (nums .u8 l[i].val.s)), .pv false (.sl (rws byP l[i].val.k)), .pv false (.sl (rws vP l[i].val.l)), .pv false (.sl (rws byP l[i].deps))])]) (fun k K => K [(8, (.pv false (.sc (.int .i64 0))))] [(16, .box [.pv b (.sl (rws aP l)), (.pv false (.sc (.int .i64 same)))]), (18, .box [.nl, (.pv false (.sc (.int .i64 0)))]), (20, .row .own 4 1 (bls l.length (Z))), (22, .box [(.pv false (.sc (.int .i64 (l[i].act)))), .pv false (.sl (nums .u8 l[i].addr)), (.pv false (.sc (.int .i64 (l[i].item)))), (.pv false (.sc (.int .i64 (l[i].val.kind)))), (.pv false (.sc (.int .i64 (l[i].val.n)))), .pv false (.sl (nums .u8 l[i].val.s)), .pv false (.sl (rws byP l[i].val.k)), .pv false (.sl (rws vP l[i].val.l)), .pv false (.sl (rws byP l[i].deps))])]) (fun k => k = 0) 0 ?hc8 ?h08 ?hs8 ?step8).trans ?r8
      case hc8 => simp; rfl
      case h08 => first | (simp; done) | (simp [*]; done) | exact ⟨by simp, ⟨rfl⟩⟩ | grind | (simp; omega)
      case hs8 => first | (simp; done) | (simp [*]; done)
      case r8 =>
        simp [hg, hlt, hr, hg, hp14, hp21]
        try simp (disch := omega) only [wrap_id']
        refine (ih.out i _ ?_ ?_ ?_).trans ?_
        · omega
        · omega
        · simp [hg, hstep, main, hzi]
        · rfl
      intro K2 k hk ih2
      by_cases h0 : 0 < l[i].deps.length
      · simp [hg, h0, hlt, hbi, hzi, hr, hg, hp14, hp21]
      · simp [hg, h0, hlt, hbi, hzi, hr, hg, hp14, hp21]
  ) Tryz.f25 Tryz.results25 gl25)
end Go.Proofs.YtgbfmdihmnpcdaaGreatDoor
