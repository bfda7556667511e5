/- The program's Part; what the laws write over results. -/
import Derived.Test.YtmfnklfoocebhaaGreatDoorYG3
namespace Go.Proofs.YtmfnklfoocebhaaGreatDoor
open Go Go.Pm Go.Proofs
set_option linter.unusedVariables false
set_option linter.unusedSimpArgs false
set_option maxRecDepth 100000
set_option maxHeartbeats 4000000
/-- A row that is written over: the first i are told. -/
def ovr {α : Type} (f : α → List PV) (g : Nat → α) (l : List α) (i : Nat) : List (List PV) := rws f ((List.range i).map g ++ l.drop i)
section
variable {α : Type} (f : α → List PV) (g : Nat → α) (l : List α) (i : Nat)
@[simp] theorem ovr_len : (ovr f g l i).length = i + (l.length - i) := by simp [ovr]
@[simp] theorem ovr_zero : ovr f g l 0 = rws f l := by simp [ovr]
@[simp] theorem ovr_end : ovr f g l l.length = rws f ((List.range l.length).map g) := by simp [ovr]
@[simp] theorem ovr_get (h : i < l.length) (h' : i < (ovr f g l i).length) : (ovr f g l i)[i]'h' = f l[i] := by
  simp [ovr]
theorem ovr_set (h : i < l.length) : (ovr f g l i).set i (f (g i)) = ovr f g l (i + 1) := by
  unfold ovr
  rw [rws_set, List.set_append_right _ _ (by simp), List.range_succ, drop_at h]
  simp only [List.length_map, List.length_range, Nat.sub_self, List.set_cons_zero, List.map_append, List.map_cons, List.map_nil, List.append_assoc, List.cons_append, List.nil_append]
end
@[simp] theorem take_cnt {α : Type} (g : Nat → α) (n : Nat) : List.take n (List.map g (List.range n)) = List.map g (List.range n) := List.take_of_length_le (by simp)
def cntI (k : Int) (j : Nat) : Int := k + j
def cntE (k : Int) (j : Nat) : Ed := (k + 2 * j, k + 2 * j + 1)
theorem p5 (b b' : Bool) (n : Int) (l : List Ed) (p : List Int) (hl : l.length ≤ 1048576) (hp : p.length ≤ 1048576) : phi C0 (lim C0) 5 [grTV b n l, .pv b' (.sl (nums .i64 p))] [] = some (if gOk n l && decide (p.length ≤ 20) then (.tu [.ag [(.pv false (.sc (.int .i64 n))), .ref 16 0 (keepE p l).length], (.pv false (.sc (.bool true)))], [(16, .row .own 37 2 (eds (keepE p l)))]) else (.tu [.ag [(.pv false (.sc (.int .i64 0))), .ref 16 0 0], (.pv false (.sc (.bool false)))], [(16, .row .own 37 2 [])])) := call0 Tryz.func5 (by kernel_rfl) ((show ∀ fn : Func, fn.results = #[.cell 4 25, .tmp 5] → globs fn = [0, 1, 2, 16, 4, 24, 23, 25, 22, 8, 37, 6, 5] → lim C0 5 fn [.c (code Tryz.f5)] ⟨_, _⟩ = _ from fun fn hr hg => by
  have p1 := p10
  simp only [grTV] at p1
  simp [code, Tryz.f5, hr, hg, p1, hl]
  repeat' ((first | refine ifL_cases (fun h => ?_) (fun h => ?_) | refine gI_cases' (fun h => ?_) (fun h => ?_) | refine gI_cases (fun h => ?_) (fun h => ?_) | refine dI_cases' (fun h => ?_) (fun h => ?_) | refine dI_cases (fun h => ?_) (fun h => ?_)) <;> first | replace h := of_decide_eq_true h | replace h := of_decide_eq_false h | skip
           all_goals try simp [*])
  · omega
  refine (loop_to (s0 := ?s1) (fun x => l.length - x.1) (fun x => [(24, (.pv false (.sc (.int .i64 ((x.1 : Nat))))))]) (fun x => [(16, .box [(.pv false (.sc (.int .i64 n))), .pv b (.sl (eds l))]), (18, .box [(.pv false (.sc (.int .i64 0))), .nl]), (20, .box [(.pv false (.sc (.int .i64 n))), slT 22 x.2])] ++ slH 22 37 2 edP x.2) (fun x K => K [(24, (.pv false (.sc (.int .i64 l.length))))] ([(16, .box [(.pv false (.sc (.int .i64 n))), .pv b (.sl (eds l))]), (18, .box [(.pv false (.sc (.int .i64 0))), .nl]), (20, .box [(.pv false (.sc (.int .i64 n))), slT 22 (x.2 ++ keepE p (l.drop x.1))])] ++ slH 22 37 2 edP (x.2 ++ keepE p (l.drop x.1)))) (fun x => x.1 ≤ l.length ∧ x.2.length ≤ x.1) (0, []) ?hc1 ?h01 ?hs1 ?step1).trans ?r1
  case hc1 => simp; rfl
  case h01 => first | (simp; done) | (simp [*]; done) | exact ⟨by simp, ⟨rfl⟩⟩ | grind | (simp; omega)
  case hs1 => first | (simp; done) | (simp [*]; done)
  case r1 => cases hk : keepE p l <;> simp [hg, hr, hk, show p.length ≤ 20 by omega]
  rintro k ⟨i, acc⟩ ⟨hi, ha⟩ ih
  have p2 := fun v => p11 b' p v hp
  have ka := fun h => keepE_at (p := p) (l := l) (i := i) h
  have kb := fun h => keepE_end (p := p) (l := l) (i := i) h
  have g1 : (acc.length + 1) * 16 ≤ Pm.roomBytes := by unfold Pm.roomBytes; simp at ha; omega
  have g2 : acc.length + 1 ≤ 9223372036854775807 := by simp at ha; omega
  simp at hi ha
  rcases acc with _ | ⟨a0, acc⟩
  all_goals simp [hg]
  all_goals simp at g1 g2 ha
  · repeat' ((first | refine ifL_cases (fun h => ?_) (fun h => ?_) | refine gI_cases' (fun h => ?_) (fun h => ?_) | refine gI_cases (fun h => ?_) (fun h => ?_) | refine dI_cases' (fun h => ?_) (fun h => ?_) | refine dI_cases (fun h => ?_) (fun h => ?_)) <;> first | replace h := of_decide_eq_true h | replace h := of_decide_eq_false h | skip
             all_goals try simp [p2, *])
    all_goals try simp (disch := omega) only [wrap_id']
    all_goals first | (refine (ih.out ((i + 1, [l[i]])) _ (by first | omega | grind) (by first | omega | (refine And.intro ?_ ?_; focus omega; (simp [*]; done)) | grind) (by first | (simp [*]; done) | (simp [*]; omega))).trans ?_; try simp [*]) | skip
    all_goals first | (refine (ih.out ((i + 1, [])) _ (by first | omega | grind) (by first | omega | (refine And.intro ?_ ?_; focus omega; (simp [*]; done)) | grind) (by first | (simp [*]; done) | (simp [*]; omega))).trans ?_; try simp [*]) | skip
    all_goals skip
    all_goals clear ih p1
    all_goals grind
  · repeat' ((first | refine ifL_cases (fun h => ?_) (fun h => ?_) | refine gI_cases' (fun h => ?_) (fun h => ?_) | refine gI_cases (fun h => ?_) (fun h => ?_) | refine dI_cases' (fun h => ?_) (fun h => ?_) | refine dI_cases (fun h => ?_) (fun h => ?_)) <;> first | replace h := of_decide_eq_true h | replace h := of_decide_eq_false h | skip
             all_goals try simp [p2, *])
    all_goals try simp (disch := omega) only [wrap_id']
    all_goals first | (refine (ih.out ((i + 1, a0 :: (acc ++ [l[i]]))) _ (by first | omega | grind) (by first | omega | (refine And.intro ?_ ?_; focus omega; (simp [*]; done)) | grind) (by first | (simp [*]; done) | (simp [*]; omega))).trans ?_; try simp [*]) | skip
    all_goals first | (refine (ih.out ((i + 1, a0 :: acc)) _ (by first | omega | grind) (by first | omega | (refine And.intro ?_ ?_; focus omega; (simp [*]; done)) | grind) (by first | (simp [*]; done) | (simp [*]; omega))).trans ?_; try simp [*]) | skip
    all_goals skip
    all_goals clear ih p1
    all_goals grind
  ) Tryz.f5 Tryz.results5 gl5)
end Go.Proofs.YtmfnklfoocebhaaGreatDoor
