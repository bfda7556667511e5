/- Reach, by the reference. -/
import Derived.Test.YtopoaemlbnkhgaaG14
namespace Go.Proofs.Ytopoaemlbnkhgaa
open Go Go.Pm Go.Proofs
set_option linter.unusedVariables false
set_option linter.unusedSimpArgs false
/-- All lie in the graph. -/
def insR (n : Int) : List Int → Bool
  | [] => true
  | x :: l => (decide (0 ≤ x) && decide (x < n)) && insR n l
theorem insR_at {n : Int} {l : List Int} {i : Nat} (h : i < l.length) : insR n (l.drop i) = ((decide (0 ≤ l[i]) && decide (l[i] < n)) && insR n (l.drop (i + 1))) := by rw [drop_at h]; rfl
theorem insR_all {n : Int} : ∀ {l : List Int}, insR n l = true → ∀ x ∈ l, 0 ≤ x ∧ x < n
  | [], _, _, h => by cases h
  | y :: l, h, x, hx => by
    simp [insR] at h
    rcases List.mem_cons.1 hx with rfl | hx
    · exact h.1
    · exact insR_all h.2 x hx
set_option maxRecDepth 100000 in
set_option maxHeartbeats 4000000 in
theorem e47_no (fn : Func) (hr : fn.results = #[.tmp 4]) (b b' : Bool) (n : Int) (l : List Ed) (from' : List Int) (hl : l.length ≤ 1048576) (hf : from'.length ≤ 1048576) (hg : gOk n l = false) : lim C0 47 fn [.c (code Try.f47)] ⟨number [grTV b n l, .pv b' (.sl (nums .i64 from'))] 0, []⟩ = some (.pv false (.sl []), []) := by
  have hp6 := plan47_6
  simp [opsOf, code, Try.f47] at hp6
  have p1 := p45
  simp only [grTV] at p1
  simp [code, Try.f47, hr, hp6, p1, hg, hl]
theorem p47_no (b b' : Bool) (n : Int) (l : List Ed) (from' : List Int) (hl : l.length ≤ 1048576) (hf : from'.length ≤ 1048576) (hg : gOk n l = false) : phi C0 (lim C0) 47 [grTV b n l, .pv b' (.sl (nums .i64 from'))] [] = some (.pv false (.sl []), []) := call0 Try.func47 (by kernel_rfl) (e47_no Try.f47 Try.results47 b b' n l from' hl hf hg)
set_option maxRecDepth 100000 in
set_option maxHeartbeats 4000000 in
theorem e47 (fn : Func) (hr : fn.results = #[.tmp 4]) (b b' : Bool) (n : Nat) (l : List Ed) (from' : List Int) (hn : n ≤ 20) (hl : l.length ≤ 400) (hg : gOk n l = true) (he : gChk n none l = true) (hf : from'.length ≤ 1048576) : lim C0 47 fn [.c (code Try.f47)] ⟨number [grTV b n l, .pv b' (.sl (nums .i64 from'))] 0, []⟩ = some (.pv false (.sl (nums .i64 (bif decide (from'.length ≤ 20) && insR n from' then told (rnds l n (marks from' [])) n else []))), []) := by
  have hp6 := plan47_6
  simp [opsOf, code, Try.f47] at hp6
  have p1 := fun b => p45 b n l (by omega)
  have p2 := fun b b' h3 => p69 b b' n l from' hn hl he hf h3
  simp only [grTV] at p1 p2
  simp [code, Try.f47, hr, hp6, p1, hg, hl]
  (first | refine ifL_cases (fun h => ?_) (fun h => ?_) | refine gI_cases' (fun h => ?_) (fun h => ?_) | refine gI_cases (fun h => ?_) (fun h => ?_) | refine dI_cases' (fun h => ?_) (fun h => ?_) | refine dI_cases (fun h => ?_) (fun h => ?_)) <;> first | replace h := of_decide_eq_true h | replace h := of_decide_eq_false h | skip
  · have c : ¬ from'.length ≤ 20 := by omega
    simp [*]
  have c : from'.length ≤ 20 := by omega
  simp [*]
  refine (loop_go (s0 := ?s1) (fun i => from'.length - i) (fun i => [(5, (.pv false (.sc (.int .i64 ((i : Nat))))))]) (fun i => [(16, .box [(.pv false (.sc (.int .i64 ((n : Nat))))), .pv b (.sl (eds l))])]) (fun i => some (.pv false (.sl (nums .i64 (bif insR n from' then told (rnds l n (marks from' [])) n else []))), [])) (fun i => i ≤ from'.length ∧ Hid (insR n from' = insR n (from'.drop i))) 0 ?hc1 ?h01 ?hs1 ?step1).trans ?r1
  case hc1 => simp; rfl
  case h01 => first | (simp; done) | (simp [*]; done) | exact ⟨by simp, ⟨rfl⟩⟩ | grind | (simp; omega)
  case hs1 => first | (simp; done) | (simp [*]; done)
  case r1 => simp
  rintro i ⟨hi, hx⟩ ih
  try simp at hi
  simp
  (first | refine ifL_cases (fun h => ?_) (fun h => ?_) | refine gI_cases' (fun h => ?_) (fun h => ?_) | refine gI_cases (fun h => ?_) (fun h => ?_) | refine dI_cases' (fun h => ?_) (fun h => ?_) | refine dI_cases (fun h => ?_) (fun h => ?_)) <;> first | replace h := of_decide_eq_true h | replace h := of_decide_eq_false h | skip
  · have hx2 : Hid (insR n from' = ((decide (0 ≤ from'[i]) && decide (from'[i] < n)) && insR n (from'.drop (i + 1)))) := ⟨by rw [hx.out, insR_at h]⟩
    simp [*]
    repeat' ((first | refine ifL_cases (fun h => ?_) (fun h => ?_) | refine gI_cases' (fun h => ?_) (fun h => ?_) | refine gI_cases (fun h => ?_) (fun h => ?_) | refine dI_cases' (fun h => ?_) (fun h => ?_) | refine dI_cases (fun h => ?_) (fun h => ?_)) <;> first | replace h := of_decide_eq_true h | replace h := of_decide_eq_false h | skip
             all_goals try simp [*])
    · have c2 : ¬ from'[i] < n := by omega
      have hx3 := hx2.out
      simp [c2] at hx3
      simp [hx3]
    · have c1 : 0 ≤ from'[i] := by omega
      have c2 : from'[i] < n := by omega
      have hx3 := hx2.out
      rw [decide_eq_true c1, decide_eq_true c2] at hx3
      simp only [Bool.true_and] at hx3
      try simp (disch := omega) only [wrap_id']
      refine (ih.out (i + 1) _ ?_ ?_ ?_).trans ?_
      · first | omega | (simp; omega)
      · exact ⟨by first | omega | (simp; omega), ⟨hx3⟩⟩
      · first | rfl | simp
      · rfl
    · have c1 : ¬ 0 ≤ from'[i] := by omega
      have hx3 := hx2.out
      simp [c1] at hx3
      simp [hx3]
  · have e : i = from'.length := by omega
    subst e
    have hx2 := hx.out
    simp [insR] at hx2
    have hq := fun b b' => p2 b b' (insR_all hx2)
    simp [*]
theorem p47 (b b' : Bool) (n : Nat) (l : List Ed) (from' : List Int) (hn : n ≤ 20) (hl : l.length ≤ 400) (hg : gOk n l = true) (he : gChk n none l = true) (hf : from'.length ≤ 1048576) : phi C0 (lim C0) 47 [grTV b n l, .pv b' (.sl (nums .i64 from'))] [] = some (.pv false (.sl (nums .i64 (bif decide (from'.length ≤ 20) && insR n from' then told (rnds l n (marks from' [])) n else []))), []) := call0 Try.func47 (by kernel_rfl) (e47 Try.f47 Try.results47 b b' n l from' hn hl hg he hf)
end Go.Proofs.Ytopoaemlbnkhgaa
