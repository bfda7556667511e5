/- Layer. -/
import Derived.Test.YtopoaemlbnkhgaaG8
namespace Go.Proofs.Ytopoaemlbnkhgaa
open Go Go.Pm Go.Proofs
set_option linter.unusedVariables false
set_option linter.unusedSimpArgs false
/-- One edge of a vertex is looked at. -/
def relax (at' : Int) (far : List Int) (e : Ed) : List Int := bif decide (e.1 = at') && decide (far.getD e.2.toNat 0 < IntKind.i64.wrap (far.getD e.1.toNat 0 + 1)) then far.set e.2.toNat (IntKind.i64.wrap (far.getD e.1.toNat 0 + 1)) else far
def relaxE (at' : Int) : List Ed → List Int → List Int
  | [], far => far
  | e :: l, far => relaxE at' l (relax at' far e)
def layL (l : List Ed) : List Int → List Int → List Int
  | [], far => far
  | a :: p, far => layL l p (relaxE a l far)
@[simp] theorem relax_len (a : Int) (far : List Int) (e : Ed) : (relax a far e).length = far.length := by unfold relax; cases decide (e.1 = a) && decide (far.getD e.2.toNat 0 < IntKind.i64.wrap (far.getD e.1.toNat 0 + 1)) <;> simp
@[simp] theorem relaxE_len (a : Int) : ∀ (l : List Ed) (far : List Int), (relaxE a l far).length = far.length
  | [], _ => rfl
  | e :: l, far => by simp [relaxE, relaxE_len a l]
theorem relax_eq (a : Int) (far : List Int) (e : Ed) (h1 : e.1.toNat < far.length) (h2 : e.2.toNat < far.length) : relax a far e = bif decide (e.1 = a) && decide (far[e.2.toNat] < IntKind.i64.wrap (far[e.1.toNat] + 1)) then far.set e.2.toNat (IntKind.i64.wrap (far[e.1.toNat] + 1)) else far := by
  unfold relax; simp [h1, h2]
@[simp] theorem numP_set (k : IntKind) (l : List Int) (i : Nat) (a : Int) : (nums k l).set i [.sc (.int k a)] = nums k (l.set i a) := rws_set (numP k) l i a
theorem relaxE_at {a : Int} {l : List Ed} {i : Nat} {far : List Int} (h : i < l.length) : relaxE a (l.drop i) far = relaxE a (l.drop (i + 1)) (relax a far l[i]) := by rw [drop_at h]; rfl
theorem layL_len (l : List Ed) : ∀ (p far : List Int), (layL l p far).length = far.length
  | [], _ => rfl
  | a :: p, far => by simp [layL, layL_len l p]
attribute [simp] layL_len
theorem ordL_len {n : Nat} {l : List Ed} (out : List Int) (h : out.length + left out n = n) : (ordL n l out).length ≤ n := by
  generalize hm : left out n = m
  induction m using Nat.strongRecOn generalizing out with
  | ind m ih =>
    by_cases hk : nextU out l n n 0 < n
    · rcases nextU_eq (out := out) (l := l) (n := n) n 0 (by omega) with ⟨h5, h6⟩ | ⟨h5, h6, h7, h8⟩
      · omega
      · have hl := left_lt (free_not h7) n h6
        rw [ordL_some rfl hk]
        exact ih _ (by omega) _ (by simp; omega) rfl
    · rw [ordL_none hk]; omega
theorem layL_at {l : List Ed} {p : List Int} {i : Nat} {far : List Int} (h : i < p.length) : layL l (p.drop i) far = layL l (p.drop (i + 1)) (relaxE p[i] l far) := by rw [drop_at h]; rfl
def layer (n v : Int) (l : List Ed) : Int := if gOk n l && decide (0 ≤ v) && decide (v < n) && decide (n ≤ (ordL n.toNat l []).length) then (layL l (ordL n.toNat l []) (List.replicate n.toNat 0)).getD v.toNat 0 else -1
set_option maxRecDepth 100000 in
set_option maxHeartbeats 4000000 in
theorem e25 (fn : Func) (hr : fn.results = #[.tmp 4]) (b : Bool) (n v : Int) (l : List Ed) (hl : l.length ≤ 1048576) : lim C0 25 fn [.c (code Try.f25)] ⟨number [grTV b n l, (.pv false (.sc (.int .i64 v)))] 0, []⟩ = some ((.pv false (.sc (.int .i64 (layer n v l)))), []) := by
  have hp14 := plan25_14
  simp [opsOf, code, Try.f25] at hp14
  have hp15 := plan25_15
  simp [opsOf, code, Try.f25] at hp15
  have p1 := p45
  simp only [grTV] at p1
  simp [code, Try.f25, hr, hp14, hp15, p1, hl]
  repeat' ((first | refine ifL_cases (fun h => ?_) (fun h => ?_) | refine gI_cases' (fun h => ?_) (fun h => ?_) | refine gI_cases (fun h => ?_) (fun h => ?_) | refine dI_cases' (fun h => ?_) (fun h => ?_) | refine dI_cases (fun h => ?_) (fun h => ?_)) <;> first | replace h := of_decide_eq_true h | replace h := of_decide_eq_false h | skip
           all_goals try simp [*])
  all_goals try grind [layer]
  obtain ⟨m, rfl, h1, h2, h3⟩ := gOk_n (by assumption)
  have p2 := fun b => p62 b m l h1 h2 h3
  have g1 : m * 8 ≤ Pm.roomBytes := by unfold Pm.roomBytes; omega
  have g2 : (m : Int) ≤ 9223372036854775807 := by omega
  simp only [grTV] at p2
  simp [p2]
  (first | refine ifL_cases (fun h => ?_) (fun h => ?_) | refine gI_cases' (fun h => ?_) (fun h => ?_) | refine gI_cases (fun h => ?_) (fun h => ?_) | refine dI_cases' (fun h => ?_) (fun h => ?_) | refine dI_cases (fun h => ?_) (fun h => ?_)) <;> first | replace h := of_decide_eq_true h | replace h := of_decide_eq_false h | skip
  · simp [hr]
    grind [layer]
  simp [g1, g2, -List.reduceReplicate]
  have hp : layer (m : Int) v l = (layL l (ordL m l []) (List.replicate m 0)).getD v.toNat 0 := by unfold layer; rw [if_pos (by simp; grind)]; simp
  rw [hp]
  generalize hpp : ordL m l [] = p at *
  have hpl : p.length ≤ 20 := by
    have := ordL_len (n := m) (l := l) [] (by simp)
    rw [hpp] at this; omega
  refine (loop_to (s0 := ?s1) (fun x => p.length - x.1) (fun x => [(7, (.pv false (.sc (.int .i64 ((x.1 : Nat))))))]) (fun x => [(16, .box [(.pv false (.sc (.int .i64 ((m : Nat))))), .pv b (.sl (eds l))]), (18, .row .own 3 1 (nums .i64 x.2))]) (fun x K => K [(7, (.pv false (.sc (.int .i64 p.length))))] [(16, .box [(.pv false (.sc (.int .i64 ((m : Nat))))), .pv b (.sl (eds l))]), (18, .row .own 3 1 (nums .i64 (layL l (p.drop x.1) x.2)))]) (fun x => x.1 ≤ p.length ∧ x.2.length = m) (0, List.replicate m 0) ?hc1 ?h01 ?hs1 ?step1).trans ?r1
  case hc1 => simp; rfl
  case h01 => first | (simp; done) | (simp [*]; done) | exact ⟨by simp, ⟨rfl⟩⟩ | grind | (simp; omega)
  case hs1 => first | (simp; done) | (simp [*]; done)
  case r1 =>
    have hv : 0 ≤ v ∧ v < m := by omega
    have hv2 : v.toNat < m := by omega
    simp [hr, hv, hv2]
  rintro k ⟨i, far⟩ ⟨hi, hf⟩ ih
  simp at hi hf
  simp
  (first | refine ifL_cases (fun h => ?_) (fun h => ?_) | refine gI_cases' (fun h => ?_) (fun h => ?_) | refine gI_cases (fun h => ?_) (fun h => ?_) | refine dI_cases' (fun h => ?_) (fun h => ?_) | refine dI_cases (fun h => ?_) (fun h => ?_)) <;> first | replace h := of_decide_eq_true h | replace h := of_decide_eq_false h | skip
  · simp [h]
    have hpi : layL l (p.drop i) far = layL l (p.drop (i + 1)) (relaxE p[i] l far) := layL_at h
    refine (loop_to (s0 := ?s2) (fun y => l.length - y.1) (fun y => [(8, (.pv false (.sc (.int .i64 ((y.1 : Nat))))))]) (fun y => [(16, .box [(.pv false (.sc (.int .i64 ((m : Nat))))), .pv b (.sl (eds l))]), (18, .row .own 3 1 (nums .i64 y.2))]) (fun y K => K [(8, (.pv false (.sc (.int .i64 l.length))))] [(16, .box [(.pv false (.sc (.int .i64 ((m : Nat))))), .pv b (.sl (eds l))]), (18, .row .own 3 1 (nums .i64 (relaxE p[i] (l.drop y.1) y.2)))]) (fun y => y.1 ≤ l.length ∧ y.2.length = m) (0, far) ?hc2 ?h02 ?hs2 ?step2).trans ?r2
    case hc2 => simp; rfl
    case h02 => first | (simp; done) | (simp [*]; done) | exact ⟨by simp, ⟨rfl⟩⟩ | grind | (simp; omega)
    case hs2 => first | (simp; done) | (simp [*]; done)
    case r2 =>
      simp
      try simp (disch := omega) only [wrap_id']
      refine (ih.out (i + 1, relaxE p[i] l far) _ ?_ ?_ ?_).trans ?_
      · simp; omega
      · simp; omega
      · simp
      · simp [hpi]
    clear ih
    rintro k ⟨q, far⟩ ⟨hq, hf⟩ ih
    simp at hq hf
    simp
    (first | refine ifL_cases (fun h => ?_) (fun h => ?_) | refine gI_cases' (fun h => ?_) (fun h => ?_) | refine gI_cases (fun h => ?_) (fun h => ?_) | refine dI_cases' (fun h => ?_) (fun h => ?_) | refine dI_cases (fun h => ?_) (fun h => ?_)) <;> first | replace h := of_decide_eq_true h | replace h := of_decide_eq_false h | skip
    · have hb : edIn m l[q] = true := gChk_in h3 _ (List.getElem_mem h)
      have hb1 : 0 ≤ l[q].1 ∧ l[q].1 < m ∧ 0 ≤ l[q].2 ∧ l[q].2 < m := by grind [edIn]
      have hb2 : l[q].1.toNat < m ∧ l[q].2.toNat < m := by omega
      have hb4 : l[q].1 = p[i] → 0 ≤ p[i] ∧ p[i] < m ∧ p[i].toNat < m := fun e => by rw [← e]; omega
      have hx := relax_eq p[i] far l[q] (by omega) (by omega)
      have hy := relaxE_at (a := p[i]) (far := far) h
      simp [*]
      repeat' ((first | refine ifL_cases (fun h => ?_) (fun h => ?_) | refine gI_cases' (fun h => ?_) (fun h => ?_) | refine gI_cases (fun h => ?_) (fun h => ?_) | refine dI_cases' (fun h => ?_) (fun h => ?_) | refine dI_cases (fun h => ?_) (fun h => ?_)) <;> first | replace h := of_decide_eq_true h | replace h := of_decide_eq_false h | skip
               all_goals try simp [*])
      all_goals try simp (disch := omega) only [wrap_id']
      all_goals try simp [*]
      all_goals try simp (disch := omega) only [wrap_id']
      all_goals first | (refine (ih.out ((q + 1, far.set l[q].2.toNat (IntKind.i64.wrap (far[l[q].1.toNat] + 1)))) _ (by first | omega | grind) (by first | omega | (refine And.intro ?_ ?_; focus omega; (simp [*]; done)) | grind) (by first | (simp [*]; done) | (simp [*]; omega))).trans ?_; try simp [*]) | skip
      all_goals first | (refine (ih.out ((q + 1, far)) _ (by first | omega | grind) (by first | omega | (refine And.intro ?_ ?_; focus omega; (simp [*]; done)) | grind) (by first | (simp [*]; done) | (simp [*]; omega))).trans ?_; try simp [*]) | skip
      all_goals clear hp14 hp15
      all_goals clear ih
    · have e : q = l.length := by omega
      subst e
      simp [relaxE]
  · have e : i = p.length := by omega
    subst e
    simp [layL]
theorem p25 (b : Bool) (n v : Int) (l : List Ed) (hl : l.length ≤ 1048576) : phi C0 (lim C0) 25 [grTV b n l, (.pv false (.sc (.int .i64 v)))] [] = some ((.pv false (.sc (.int .i64 (layer n v l)))), []) := call0 Try.func25 (by kernel_rfl) (e25 Try.f25 Try.results25 b n v l hl)
end Go.Proofs.Ytopoaemlbnkhgaa
