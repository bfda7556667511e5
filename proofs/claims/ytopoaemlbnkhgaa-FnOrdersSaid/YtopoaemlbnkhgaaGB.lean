/- The comparison of edges, by its code alone. -/
import Derived.Test.YtopoaemlbnkhgaaT0
namespace Go.Proofs.Ytopoaemlbnkhgaa.B
open Go Go.Pm Go.Proofs
set_option linter.unusedVariables false
set_option linter.unusedSimpArgs false
def edTV (e : Ed) : TV := .ag [(.pv false (.sc (.int .i64 e.1))), (.pv false (.sc (.int .i64 e.2)))]
attribute [simp] edTV
set_option maxRecDepth 100000 in
set_option maxHeartbeats 4000000 in
theorem e108 (fn : Func) (hr : fn.results = #[.tmp 2]) (a : Int) : lim Cb 108 fn [.c (code Try.f108)] ⟨number [(.pv false (.sc (.int .i64 a)))] 0, []⟩ = some ((.pv false (.sc (.bool false))), []) := by
  simp [code, Try.f108, hr]
theorem p108 (a : Int) : phi Cb (lim Cb) 108 [(.pv false (.sc (.int .i64 a)))] [] = some ((.pv false (.sc (.bool false))), []) := callB Try.func108 (by kernel_rfl) (e108 Try.f108 Try.results108 a)
set_option maxRecDepth 100000 in
set_option maxHeartbeats 4000000 in
theorem e91 (fn : Func) (hr : fn.results = #[.tmp 4]) (a b : Int) : lim Cb 91 fn [.c (code Try.f91)] ⟨number [(.pv false (.sc (.int .i64 a))), (.pv false (.sc (.int .i64 b)))] 0, []⟩ = some ((.pv false (.sc (.int .i64 (cmpI a b)))), []) := by
  simp [code, Try.f91, hr, p108]
  repeat' ((first | refine ifL_cases (fun h => ?_) (fun h => ?_) | refine gI_cases' (fun h => ?_) (fun h => ?_) | refine gI_cases (fun h => ?_) (fun h => ?_) | refine dI_cases' (fun h => ?_) (fun h => ?_) | refine dI_cases (fun h => ?_) (fun h => ?_)) <;> first | replace h := of_decide_eq_true h | replace h := of_decide_eq_false h | skip
           all_goals try simp [*])
  all_goals grind [cmpI]
theorem p91 (a b : Int) : phi Cb (lim Cb) 91 [(.pv false (.sc (.int .i64 a))), (.pv false (.sc (.int .i64 b)))] [] = some ((.pv false (.sc (.int .i64 (cmpI a b)))), []) := callB Try.func91 (by kernel_rfl) (e91 Try.f91 Try.results91 a b)
set_option maxRecDepth 100000 in
set_option maxHeartbeats 4000000 in
theorem e90 (fn : Func) (hr : fn.results = #[.tmp 2]) (a b : Int) (c : Bool) : lim Cb 90 fn [.c (code Try.f90)] ⟨number [.pv c (.sl (nums .i64 [a, b]))] 0, []⟩ = some ((.pv false (.sc (.int .i64 (if a = 0 then b else a)))), []) := by
  simp [code, Try.f90, hr]
  refine (loop_go (s0 := ?s1) (fun i => 2 - i) (fun i => [(8, (.pv false (.sc (.int .i64 ((i : Nat))))))]) (fun i => []) (fun i => some ((.pv false (.sc (.int .i64 (if i = 0 then (if a = 0 then b else a) else if i = 1 then b else 0)))), [])) (fun i => i ≤ 2) 0 ?hc1 ?h01 ?hs1 ?step1).trans ?r1
  case hc1 => simp; rfl
  case h01 => first | (simp; done) | (simp [*]; done) | exact ⟨by simp, ⟨rfl⟩⟩ | grind | (simp; omega)
  case hs1 => first | (simp; done) | (simp [*]; done)
  case r1 => simp
  intro i hi ih
  simp
  (first | refine ifL_cases (fun h => ?_) (fun h => ?_) | refine gI_cases' (fun h => ?_) (fun h => ?_) | refine gI_cases (fun h => ?_) (fun h => ?_) | refine dI_cases' (fun h => ?_) (fun h => ?_) | refine dI_cases (fun h => ?_) (fun h => ?_)) <;> first | replace h := of_decide_eq_true h | replace h := of_decide_eq_false h | skip
  · have h2 : i = 0 ∨ i = 1 := by omega
    rcases h2 with rfl | rfl <;> simp
    · repeat' ((first | refine ifL_cases (fun h => ?_) (fun h => ?_) | refine gI_cases' (fun h => ?_) (fun h => ?_) | refine gI_cases (fun h => ?_) (fun h => ?_) | refine dI_cases' (fun h => ?_) (fun h => ?_) | refine dI_cases (fun h => ?_) (fun h => ?_)) <;> first | replace h := of_decide_eq_true h | replace h := of_decide_eq_false h | skip
               all_goals try simp [*])
      all_goals first | (refine (ih.out (1) _ (by first | omega | grind) (by first | omega | (refine And.intro ?_ ?_; focus omega; (simp [*]; done)) | grind) (by first | (simp [*]; done) | (simp [*]; omega))).trans ?_; try simp [*]) | skip
      all_goals grind
    · repeat' ((first | refine ifL_cases (fun h => ?_) (fun h => ?_) | refine gI_cases' (fun h => ?_) (fun h => ?_) | refine gI_cases (fun h => ?_) (fun h => ?_) | refine dI_cases' (fun h => ?_) (fun h => ?_) | refine dI_cases (fun h => ?_) (fun h => ?_)) <;> first | replace h := of_decide_eq_true h | replace h := of_decide_eq_false h | skip
               all_goals try simp [*])
      all_goals first | (refine (ih.out (2) _ (by first | omega | grind) (by first | omega | (refine And.intro ?_ ?_; focus omega; (simp [*]; done)) | grind) (by first | (simp [*]; done) | (simp [*]; omega))).trans ?_; try simp [*]) | skip
      all_goals grind
  · have h2 : i = 2 := by omega
    subst h2
    simp [hr]
theorem p90 (a b : Int) (c : Bool) : phi Cb (lim Cb) 90 [.pv c (.sl (nums .i64 [a, b]))] [] = some ((.pv false (.sc (.int .i64 (if a = 0 then b else a)))), []) := callB Try.func90 (by kernel_rfl) (e90 Try.f90 Try.results90 a b c)
set_option maxRecDepth 100000 in
set_option maxHeartbeats 4000000 in
theorem e72 (fn : Func) (hr : fn.results = #[.tmp 4]) (a b : Ed) : lim Cb 72 fn [.c (code Try.f72)] ⟨number [edTV a, edTV b] 0, []⟩ = some ((.pv false (.sc (.int .i64 (cmpE a b)))), []) := by
  have hp1 := plan72_1
  simp [opsOf, code, Try.f72] at hp1
  have p1 := p90 (cmpI a.1 b.1) (cmpI a.2 b.2) true
  simp [rws] at p1
  simp [code, Try.f72, hr, hp1, p91, p1, cmpE]
theorem p72 (a b : Ed) : phi Cb (lim Cb) 72 [edTV a, edTV b] [] = some ((.pv false (.sc (.int .i64 (cmpE a b)))), []) := callB Try.func72 (by kernel_rfl) (e72 Try.f72 Try.results72 a b)
end Go.Proofs.Ytopoaemlbnkhgaa.B
