/- A part of a graph. -/
import Derived.Test.YtmfnklfoocebhaaGreatDoorYG2
namespace Go.Proofs.YtmfnklfoocebhaaGreatDoor
open Go Go.Pm Go.Proofs
set_option linter.unusedVariables false
set_option linter.unusedSimpArgs false
set_option maxRecDepth 100000
set_option maxHeartbeats 4000000
def hasI : List Int → Int → Bool
  | [], _ => false
  | a :: l, v => decide (a = v) || hasI l v
def keepE (keep : List Int) : List Ed → List Ed
  | [] => []
  | e :: l => bif hasI keep e.1 && hasI keep e.2 then e :: keepE keep l else keepE keep l
theorem keepE_at {p : List Int} {l : List Ed} {i : Nat} (h : i < l.length) : keepE p (l.drop i) = bif hasI p l[i].1 && hasI p l[i].2 then l[i] :: keepE p (l.drop (i + 1)) else keepE p (l.drop (i + 1)) := by rw [drop_at h]; rfl
theorem keepE_end {p : List Int} {l : List Ed} {i : Nat} (h : ¬ i < l.length) : keepE p (l.drop i) = [] := by rw [drop_end h]; rfl
def idxI : List Int → Int → Nat → Int
  | [], _, _ => -1
  | a :: l, v, i => bif decide (v = a) then i else idxI l v (i + 1)
theorem idxI_ge : ∀ (l : List Int) (v : Int) (i : Nat), decide (0 ≤ idxI l v i) = hasI l v
  | [], v, i => by simp [idxI, hasI]
  | a :: l, v, i => by
    have ih := idxI_ge l v (i + 1)
    by_cases h : a = v
    · subst h; simp [idxI, hasI]
    · simp [idxI, hasI, h, ih, show ¬ v = a from fun e => h e.symm]
theorem p22 (b : Bool) (l : List Int) (v : Int) (hl : l.length ≤ 1048576) : phi C0 (lim C0) 22 [.pv b (.sl (nums .i64 l)), (.pv false (.sc (.int .i64 v)))] [] = some ((.pv false (.sc (.int .i64 (idxI l v 0)))), []) := call0 Tryz.func22 (by kernel_rfl) ((show ∀ fn : Func, fn.results = #[.tmp 4] → globs fn = [0, 8, 7, 9, 5, 1, 16, 4] → lim C0 22 fn [.c (code Tryz.f22)] ⟨_, _⟩ = _ from fun fn hr hg => by
  simp [code, Tryz.f22, hr, hg]
  refine (loop_go (s0 := ?s1) (fun i => l.length - i) (fun i => [(8, (.pv false (.sc (.int .i64 ((i : Nat))))))]) (fun i => []) (fun i => some ((.pv false (.sc (.int .i64 (idxI (l.drop i) v i)))), [])) (fun i => i ≤ l.length) 0 ?hc1 ?h01 ?hs1 ?step1).trans ?r1
  case hc1 => simp; rfl
  case h01 => first | (simp; done) | (simp [*]; done) | exact ⟨by simp, ⟨rfl⟩⟩ | grind | (simp; omega)
  case hs1 => first | (simp; done) | (simp [*]; done)
  case r1 => simp [hg]
  intro i hi ih
  simp [hg]
  repeat' ((first | refine ifL_cases (fun h => ?_) (fun h => ?_) | refine gI_cases' (fun h => ?_) (fun h => ?_) | refine gI_cases (fun h => ?_) (fun h => ?_) | refine dI_cases' (fun h => ?_) (fun h => ?_) | refine dI_cases (fun h => ?_) (fun h => ?_)) <;> first | replace h := of_decide_eq_true h | replace h := of_decide_eq_false h | skip
           all_goals try simp [*])
  all_goals try simp (disch := omega) only [wrap_id']
  all_goals first | (refine (ih.out (i + 1) _ (by first | omega | grind) (by first | omega | (refine And.intro ?_ ?_; focus omega; (simp [*]; done)) | grind) (by first | (simp [*]; done) | (simp [*]; omega))).trans ?_; try simp [*]) | skip
  all_goals clear ih
  all_goals grind [drop_at, drop_end, idxI]
  ) Tryz.f22 Tryz.results22 gl22)
theorem p11 (b : Bool) (l : List Int) (v : Int) (hl : l.length ≤ 1048576) : phi C0 (lim C0) 11 [.pv b (.sl (nums .i64 l)), (.pv false (.sc (.int .i64 v)))] [] = some ((.pv false (.sc (.bool (hasI l v)))), []) := call0 Tryz.func11 (by kernel_rfl) ((show ∀ fn : Func, fn.results = #[.tmp 4] → lim C0 11 fn [.c (code Tryz.f11)] ⟨_, _⟩ = _ from fun fn hr => by
  simp [code, Tryz.f11, hr, p22, hl, idxI_ge]
  ) Tryz.f11 Tryz.results11)
end Go.Proofs.YtmfnklfoocebhaaGreatDoor
