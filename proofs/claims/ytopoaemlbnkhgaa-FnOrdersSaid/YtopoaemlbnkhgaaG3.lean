/- A part of a graph. -/
import Derived.Test.YtopoaemlbnkhgaaG2
namespace Go.Proofs.Ytopoaemlbnkhgaa
open Go Go.Pm Go.Proofs
set_option linter.unusedVariables false
set_option linter.unusedSimpArgs false
def hasI : List Int → Int → Bool
  | [], _ => false
  | a :: l, v => decide (a = v) || hasI l v
def keepE (keep : List Int) : List Ed → List Ed
  | [] => []
  | e :: l => bif hasI keep e.1 && hasI keep e.2 then e :: keepE keep l else keepE keep l
theorem keepE_at {p : List Int} {l : List Ed} {i : Nat} (h : i < l.length) : keepE p (l.drop i) = bif hasI p l[i].1 && hasI p l[i].2 then l[i] :: keepE p (l.drop (i + 1)) else keepE p (l.drop (i + 1)) := by rw [drop_at h]; rfl
theorem keepE_end {p : List Int} {l : List Ed} {i : Nat} (h : ¬ i < l.length) : keepE p (l.drop i) = [] := by rw [drop_end h]; rfl
set_option maxRecDepth 100000 in
set_option maxHeartbeats 4000000 in
theorem e65 (fn : Func) (hr : fn.results = #[.tmp 4]) (b : Bool) (l : List Int) (v : Int) (hl : l.length ≤ 1048576) : lim C0 65 fn [.c (code Try.f65)] ⟨number [.pv b (.sl (nums .i64 l)), (.pv false (.sc (.int .i64 v)))] 0, []⟩ = some ((.pv false (.sc (.bool (hasI l v)))), []) := by
  simp [code, Try.f65, hr]
  refine (loop_to (s0 := ?s1) (fun i => l.length - i) (fun i => [(5, (.pv false (.sc (.int .i64 ((i : Nat))))))]) (fun i => []) (fun i K => bif hasI (l.drop i) v then some ((.pv false (.sc (.bool true))), []) else K [(5, (.pv false (.sc (.int .i64 l.length))))] []) (fun i => i ≤ l.length) 0 ?hc1 ?h01 ?hs1 ?step1).trans ?r1
  case hc1 => simp; rfl
  case h01 => first | (simp; done) | (simp [*]; done) | exact ⟨by simp, ⟨rfl⟩⟩ | grind | (simp; omega)
  case hs1 => first | (simp; done) | (simp [*]; done)
  case r1 => simp [hr]; grind
  intro k i hi ih
  simp
  repeat' ((first | refine ifL_cases (fun h => ?_) (fun h => ?_) | refine gI_cases' (fun h => ?_) (fun h => ?_) | refine gI_cases (fun h => ?_) (fun h => ?_) | refine dI_cases' (fun h => ?_) (fun h => ?_) | refine dI_cases (fun h => ?_) (fun h => ?_)) <;> first | replace h := of_decide_eq_true h | replace h := of_decide_eq_false h | skip
           all_goals try simp [*])
  all_goals try simp (disch := omega) only [wrap_id']
  all_goals first | (refine (ih.out (i + 1) _ (by first | omega | grind) (by first | omega | (refine And.intro ?_ ?_; focus omega; (simp [*]; done)) | grind) (by first | (simp [*]; done) | (simp [*]; omega))).trans ?_; try simp [*]) | skip
  all_goals clear ih
  all_goals grind [drop_at, drop_end, hasI]
theorem p65 (b : Bool) (l : List Int) (v : Int) (hl : l.length ≤ 1048576) : phi C0 (lim C0) 65 [.pv b (.sl (nums .i64 l)), (.pv false (.sc (.int .i64 v)))] [] = some ((.pv false (.sc (.bool (hasI l v)))), []) := call0 Try.func65 (by kernel_rfl) (e65 Try.f65 Try.results65 b l v hl)
def idxI : List Int → Int → Nat → Int
  | [], _, _ => -1
  | a :: l, v, i => bif decide (v = a) then i else idxI l v (i + 1)
theorem idxI_ge : ∀ (l : List Int) (v : Int) (i : Nat), decide (0 ≤ idxI l v i) = hasI l v
  | [], v, i => by simp [idxI, hasI]
  | a :: l, v, i => by
    have ih := idxI_ge l v (i + 1)
    by_cases h : a = v
    · subst h; simp [idxI, hasI]
    · simp [idxI, hasI, h, ih, show ¬ v = a from fun e => h e.symm]
set_option maxRecDepth 100000 in
set_option maxHeartbeats 4000000 in
theorem e87 (fn : Func) (hr : fn.results = #[.tmp 4]) (b : Bool) (l : List Int) (v : Int) (hl : l.length ≤ 1048576) : lim C0 87 fn [.c (code Try.f87)] ⟨number [.pv b (.sl (nums .i64 l)), (.pv false (.sc (.int .i64 v)))] 0, []⟩ = some ((.pv false (.sc (.int .i64 (idxI l v 0)))), []) := by
  simp [code, Try.f87, hr]
  refine (loop_go (s0 := ?s2) (fun i => l.length - i) (fun i => [(8, (.pv false (.sc (.int .i64 ((i : Nat))))))]) (fun i => []) (fun i => some ((.pv false (.sc (.int .i64 (idxI (l.drop i) v i)))), [])) (fun i => i ≤ l.length) 0 ?hc2 ?h02 ?hs2 ?step2).trans ?r2
  case hc2 => simp; rfl
  case h02 => first | (simp; done) | (simp [*]; done) | exact ⟨by simp, ⟨rfl⟩⟩ | grind | (simp; omega)
  case hs2 => first | (simp; done) | (simp [*]; done)
  case r2 => simp
  intro i hi ih
  simp
  repeat' ((first | refine ifL_cases (fun h => ?_) (fun h => ?_) | refine gI_cases' (fun h => ?_) (fun h => ?_) | refine gI_cases (fun h => ?_) (fun h => ?_) | refine dI_cases' (fun h => ?_) (fun h => ?_) | refine dI_cases (fun h => ?_) (fun h => ?_)) <;> first | replace h := of_decide_eq_true h | replace h := of_decide_eq_false h | skip
           all_goals try simp [*])
  all_goals try simp (disch := omega) only [wrap_id']
  all_goals first | (refine (ih.out (i + 1) _ (by first | omega | grind) (by first | omega | (refine And.intro ?_ ?_; focus omega; (simp [*]; done)) | grind) (by first | (simp [*]; done) | (simp [*]; omega))).trans ?_; try simp [*]) | skip
  all_goals clear ih
  all_goals grind [drop_at, drop_end, idxI]
theorem p87 (b : Bool) (l : List Int) (v : Int) (hl : l.length ≤ 1048576) : phi C0 (lim C0) 87 [.pv b (.sl (nums .i64 l)), (.pv false (.sc (.int .i64 v)))] [] = some ((.pv false (.sc (.int .i64 (idxI l v 0)))), []) := call0 Try.func87 (by kernel_rfl) (e87 Try.f87 Try.results87 b l v hl)
set_option maxRecDepth 100000 in
set_option maxHeartbeats 4000000 in
theorem e66 (fn : Func) (hr : fn.results = #[.tmp 4]) (b : Bool) (l : List Int) (v : Int) (hl : l.length ≤ 1048576) : lim C0 66 fn [.c (code Try.f66)] ⟨number [.pv b (.sl (nums .i64 l)), (.pv false (.sc (.int .i64 v)))] 0, []⟩ = some ((.pv false (.sc (.bool (hasI l v)))), []) := by
  simp [code, Try.f66, hr, p87, hl, idxI_ge]
theorem p66 (b : Bool) (l : List Int) (v : Int) (hl : l.length ≤ 1048576) : phi C0 (lim C0) 66 [.pv b (.sl (nums .i64 l)), (.pv false (.sc (.int .i64 v)))] [] = some ((.pv false (.sc (.bool (hasI l v)))), []) := call0 Try.func66 (by kernel_rfl) (e66 Try.f66 Try.results66 b l v hl)
set_option maxRecDepth 100000 in
set_option maxHeartbeats 4000000 in
theorem e29 (fn : Func) (hr : fn.results = #[.cell 4 34, .tmp 5]) (b b' : Bool) (n : Int) (l : List Ed) (p : List Int) (hl : l.length ≤ 1048576) (hp : p.length ≤ 1048576) : lim C0 29 fn [.c (code Try.f29)] ⟨number [grTV b n l, .pv b' (.sl (nums .i64 p))] 0, []⟩ = some (if gOk n l && decide (p.length ≤ 20) then .tu [grTV false n (keepE p l), (.pv false (.sc (.bool true)))] else .tu [grTV false 0 [], (.pv false (.sc (.bool false)))], []) := by
  have hp8 := plan29_8
  simp [opsOf, code, Try.f29] at hp8
  have p1 := p45
  simp only [grTV] at p1
  simp [code, Try.f29, hr, hp8, p1, hl]
  repeat' ((first | refine ifL_cases (fun h => ?_) (fun h => ?_) | refine gI_cases' (fun h => ?_) (fun h => ?_) | refine gI_cases (fun h => ?_) (fun h => ?_) | refine dI_cases' (fun h => ?_) (fun h => ?_) | refine dI_cases (fun h => ?_) (fun h => ?_)) <;> first | replace h := of_decide_eq_true h | replace h := of_decide_eq_false h | skip
           all_goals try simp [*])
  · omega
  refine (loop_to (s0 := ?s3) (fun x => l.length - x.1) (fun x => [(7, (.pv false (.sc (.int .i64 ((x.1 : Nat))))))]) (fun x => [(16, .box [(.pv false (.sc (.int .i64 n))), .pv b (.sl (eds l))]), (18, .box [(.pv false (.sc (.int .i64 0))), .nl]), (20, .box [(.pv false (.sc (.int .i64 n))), slT 22 x.2])] ++ slH 22 42 2 edP x.2) (fun x K => K [(7, (.pv false (.sc (.int .i64 l.length))))] ([(16, .box [(.pv false (.sc (.int .i64 n))), .pv b (.sl (eds l))]), (18, .box [(.pv false (.sc (.int .i64 0))), .nl]), (20, .box [(.pv false (.sc (.int .i64 n))), slT 22 (x.2 ++ keepE p (l.drop x.1))])] ++ slH 22 42 2 edP (x.2 ++ keepE p (l.drop x.1)))) (fun x => x.1 ≤ l.length ∧ x.2.length ≤ x.1) (0, []) ?hc3 ?h03 ?hs3 ?step3).trans ?r3
  case hc3 => simp; rfl
  case h03 => first | (simp; done) | (simp [*]; done) | exact ⟨by simp, ⟨rfl⟩⟩ | grind | (simp; omega)
  case hs3 => first | (simp; done) | (simp [*]; done)
  case r3 => cases hk : keepE p l <;> simp [hr, hk, show p.length ≤ 20 by omega]
  rintro k ⟨i, acc⟩ ⟨hi, ha⟩ ih
  have p2 := fun v => p65 b' p v hp
  have ka := fun h => keepE_at (p := p) (l := l) (i := i) h
  have kb := fun h => keepE_end (p := p) (l := l) (i := i) h
  have g1 : (acc.length + 1) * 16 ≤ Pm.roomBytes := by unfold Pm.roomBytes; simp at ha; omega
  have g2 : acc.length + 1 ≤ 9223372036854775807 := by simp at ha; omega
  simp at hi ha
  rcases acc with _ | ⟨a0, acc⟩
  all_goals simp
  all_goals simp at g1 g2 ha
  · repeat' ((first | refine ifL_cases (fun h => ?_) (fun h => ?_) | refine gI_cases' (fun h => ?_) (fun h => ?_) | refine gI_cases (fun h => ?_) (fun h => ?_) | refine dI_cases' (fun h => ?_) (fun h => ?_) | refine dI_cases (fun h => ?_) (fun h => ?_)) <;> first | replace h := of_decide_eq_true h | replace h := of_decide_eq_false h | skip
             all_goals try simp [p2, *])
    all_goals try simp (disch := omega) only [wrap_id']
    all_goals first | (refine (ih.out ((i + 1, [l[i]])) _ (by first | omega | grind) (by first | omega | (refine And.intro ?_ ?_; focus omega; (simp [*]; done)) | grind) (by first | (simp [*]; done) | (simp [*]; omega))).trans ?_; try simp [*]) | skip
    all_goals first | (refine (ih.out ((i + 1, [])) _ (by first | omega | grind) (by first | omega | (refine And.intro ?_ ?_; focus omega; (simp [*]; done)) | grind) (by first | (simp [*]; done) | (simp [*]; omega))).trans ?_; try simp [*]) | skip
    all_goals clear hp8
    all_goals clear ih p1
    all_goals grind
  · repeat' ((first | refine ifL_cases (fun h => ?_) (fun h => ?_) | refine gI_cases' (fun h => ?_) (fun h => ?_) | refine gI_cases (fun h => ?_) (fun h => ?_) | refine dI_cases' (fun h => ?_) (fun h => ?_) | refine dI_cases (fun h => ?_) (fun h => ?_)) <;> first | replace h := of_decide_eq_true h | replace h := of_decide_eq_false h | skip
             all_goals try simp [p2, *])
    all_goals try simp (disch := omega) only [wrap_id']
    all_goals first | (refine (ih.out ((i + 1, a0 :: (acc ++ [l[i]]))) _ (by first | omega | grind) (by first | omega | (refine And.intro ?_ ?_; focus omega; (simp [*]; done)) | grind) (by first | (simp [*]; done) | (simp [*]; omega))).trans ?_; try simp [*]) | skip
    all_goals first | (refine (ih.out ((i + 1, a0 :: acc)) _ (by first | omega | grind) (by first | omega | (refine And.intro ?_ ?_; focus omega; (simp [*]; done)) | grind) (by first | (simp [*]; done) | (simp [*]; omega))).trans ?_; try simp [*]) | skip
    all_goals clear hp8
    all_goals clear ih p1
    all_goals grind
theorem p29 (b b' : Bool) (n : Int) (l : List Ed) (p : List Int) (hl : l.length ≤ 1048576) (hp : p.length ≤ 1048576) : phi C0 (lim C0) 29 [grTV b n l, .pv b' (.sl (nums .i64 p))] [] = some (if gOk n l && decide (p.length ≤ 20) then .tu [grTV false n (keepE p l), (.pv false (.sc (.bool true)))] else .tu [grTV false 0 [], (.pv false (.sc (.bool false)))], []) := call0 Try.func29 (by kernel_rfl) (e29 Try.f29 Try.results29 b b' n l p hl hp)
end Go.Proofs.Ytopoaemlbnkhgaa
