/- Layer, by the program. -/
import Derived.Test.YtopoaemlbnkhgaaG9
namespace Go.Proofs.Ytopoaemlbnkhgaa
open Go Go.Pm Go.Proofs
set_option linter.unusedVariables false
set_option linter.unusedSimpArgs false
theorem relax_ne (a : Int) (far : List Int) (e : Ed) (h : ¬ e.1 = a) : relax a far e = far := by simp [relax, h]
theorem relax_max (a : Int) (far : List Int) (e : Ed) (h : e.1 = a) (h1 : e.1.toNat < far.length) (h2 : e.2.toNat < far.length) : far.set e.2.toNat (if far[e.2.toNat] < IntKind.i64.wrap (far[a.toNat]'(h ▸ h1) + 1) then IntKind.i64.wrap (far[a.toNat]'(h ▸ h1) + 1) else far[e.2.toNat]) = relax a far e := by
  subst h
  rw [relax_eq _ _ _ h1 h2]
  by_cases hc : far[e.2.toNat] < IntKind.i64.wrap (far[e.1.toNat] + 1)
  · simp [hc]
  · simp [hc]
set_option maxRecDepth 100000 in
set_option maxHeartbeats 4000000 in
theorem e27 (fn : Func) (hr : fn.results = #[.tmp 4]) (b : Bool) (n v : Int) (l : List Ed) (hl : l.length ≤ 1048576) : lim C0 27 fn [.c (code Try.f27)] ⟨number [grTV b n l, (.pv false (.sc (.int .i64 v)))] 0, []⟩ = some ((.pv false (.sc (.int .i64 (layer n v l)))), []) := by
  have hp12 := plan27_12
  simp [opsOf, code, Try.f27] at hp12
  cases h : gOk n l
  · have p1 := fun b => p56_no b n l hl h
    simp only [grTV] at p1
    simp [code, Try.f27, hr, hp12, p1]
    grind [layer]
  · obtain ⟨m, rfl, hm20, hl400, hch⟩ := gOk_n h
    have p1 := fun b => p56 b m l hl h
    simp only [grTV] at p1
    by_cases hc : m ≤ (ordL m l []).length
    · simp only [hc, if_true] at p1
      have hw : IntKind.i64.wrap ((m : Int) - 1) = m - 1 := wrap_id' (by omega)
      have g1 : m * 8 ≤ Pm.roomBytes := by unfold Pm.roomBytes; omega
      have g2 : (m : Int) ≤ 9223372036854775807 := by omega
      have hpl : (ordL m l []).length ≤ 20 := by
        have := ordL_len (n := m) (l := l) [] (by simp)
        omega
      simp [code, Try.f27, hr, hp12, p1, p60, hw]
      (first | refine ifL_cases (fun h => ?_) (fun h => ?_) | refine gI_cases' (fun h => ?_) (fun h => ?_) | refine gI_cases (fun h => ?_) (fun h => ?_) | refine dI_cases' (fun h => ?_) (fun h => ?_) | refine dI_cases (fun h => ?_) (fun h => ?_)) <;> first | replace h := of_decide_eq_true h | replace h := of_decide_eq_false h | skip
      · have hv : 0 ≤ v ∧ v < m := by grind [inI]
        have hv2 : v.toNat < m := by omega
        have hp : layer (m : Int) v l = (layL l (ordL m l []) (List.replicate m 0)).getD v.toNat 0 := by unfold layer; rw [if_pos (by simp; grind)]; simp
        rw [hp]
        generalize hpp : ordL m l [] = p at *
        simp [g1, g2, -List.reduceReplicate]
        refine (loop_to (s0 := ?s1) (fun x => p.length - x.1) (fun x => [(32, (.pv false (.sc (.int .i64 ((x.1 : Nat))))))]) (fun x => [(16, .box [(.pv false (.sc (.int .i64 ((m : Nat))))), .pv b (.sl (eds l))]), (18, .row .own 3 1 (nums .i64 p)), (20, .row .own 3 1 (nums .i64 (x.2)))]) (fun x K => K [(32, (.pv false (.sc (.int .i64 p.length))))] [(16, .box [(.pv false (.sc (.int .i64 ((m : Nat))))), .pv b (.sl (eds l))]), (18, .row .own 3 1 (nums .i64 p)), (20, .row .own 3 1 (nums .i64 (layL l (p.drop x.1) x.2)))]) (fun x => x.1 ≤ p.length ∧ x.2.length = m) (0, List.replicate m 0) ?hc1 ?h01 ?hs1 ?step1).trans ?r1
        case hc1 => simp; rfl
        case h01 => first | (simp; done) | (simp [*]; done) | exact ⟨by simp, ⟨rfl⟩⟩ | grind | (simp; omega)
        case hs1 => first | (simp; done) | (simp [*]; done)
        case r1 => simp [hr, hv, hv2]
        rintro k ⟨i, far⟩ ⟨hi, hf⟩ ih
        simp at hi hf
        simp
        (first | refine ifL_cases (fun h => ?_) (fun h => ?_) | refine gI_cases' (fun h => ?_) (fun h => ?_) | refine gI_cases (fun h => ?_) (fun h => ?_) | refine dI_cases' (fun h => ?_) (fun h => ?_) | refine dI_cases (fun h => ?_) (fun h => ?_)) <;> first | replace h := of_decide_eq_true h | replace h := of_decide_eq_false h | skip
        · have hpi : layL l (p.drop i) far = layL l (p.drop (i + 1)) (relaxE p[i] l far) := layL_at h
          simp [*]
          refine (loop_to (s0 := ?s2) (fun y => l.length - y.1) (fun y => [(39, (.pv false (.sc (.int .i64 ((y.1 : Nat))))))]) (fun y => [(16, .box [(.pv false (.sc (.int .i64 ((m : Nat))))), .pv b (.sl (eds l))]), (18, .row .own 3 1 (nums .i64 p)), (20, .row .own 3 1 (nums .i64 (y.2)))]) (fun y K => K [(39, (.pv false (.sc (.int .i64 l.length))))] [(16, .box [(.pv false (.sc (.int .i64 ((m : Nat))))), .pv b (.sl (eds l))]), (18, .row .own 3 1 (nums .i64 p)), (20, .row .own 3 1 (nums .i64 (relaxE p[i] (l.drop y.1) y.2)))]) (fun y => y.1 ≤ l.length ∧ y.2.length = m) (0, far) ?hc2 ?h02 ?hs2 ?step2).trans ?r2
          case hc2 => simp; rfl
          case h02 => first | (simp; done) | (simp [*]; done) | exact ⟨by simp, ⟨rfl⟩⟩ | grind | (simp; omega)
          case hs2 => first | (simp; done) | (simp [*]; done)
          case r2 =>
            simp
            try simp (disch := omega) only [wrap_id']
            refine (ih.out (i + 1, relaxE p[i] l far) _ ?_ ?_ ?_).trans ?_
            · simp; omega
            · simp; omega
            · simp [*]
            · simp [*]
          clear ih
          rintro k ⟨q, far⟩ ⟨hq, hf⟩ ih
          simp at hq hf
          simp
          (first | refine ifL_cases (fun h => ?_) (fun h => ?_) | refine gI_cases' (fun h => ?_) (fun h => ?_) | refine gI_cases (fun h => ?_) (fun h => ?_) | refine dI_cases' (fun h => ?_) (fun h => ?_) | refine dI_cases (fun h => ?_) (fun h => ?_)) <;> first | replace h := of_decide_eq_true h | replace h := of_decide_eq_false h | skip
          · have hb : edIn m l[q] = true := gChk_in hch _ (List.getElem_mem h)
            have hb1 : 0 ≤ l[q].1 ∧ l[q].1 < m ∧ 0 ≤ l[q].2 ∧ l[q].2 < m := by grind [edIn]
            have hb2 : l[q].1.toNat < m ∧ l[q].2.toNat < m := by omega
            have hb4 : l[q].1 = p[i] → 0 ≤ p[i] ∧ p[i] < m ∧ p[i].toNat < m := fun e => by rw [← e]; omega
            have hx := fun (h' : ¬ l[q].1 = p[i]) => relax_ne p[i] far l[q] h'
            have hz := fun (h' : l[q].1 = p[i]) => relax_max p[i] far l[q] h' (by omega) (by omega)
            have hy := relaxE_at (a := p[i]) (far := far) h
            simp [*]
            repeat' ((first | refine ifL_cases (fun h => ?_) (fun h => ?_) | refine gI_cases' (fun h => ?_) (fun h => ?_) | refine gI_cases (fun h => ?_) (fun h => ?_) | refine dI_cases' (fun h => ?_) (fun h => ?_) | refine dI_cases (fun h => ?_) (fun h => ?_)) <;> first | replace h := of_decide_eq_true h | replace h := of_decide_eq_false h | skip
                     all_goals try simp [*])
            all_goals try simp (disch := omega) only [wrap_id']
            all_goals try simp [*]
            all_goals try simp (disch := omega) only [wrap_id']
            all_goals first | (refine (ih.out ((q + 1, relax p[i] far l[q])) _ (by first | omega | grind) (by first | omega | (refine And.intro ?_ ?_; focus omega; (simp [*]; done)) | grind) (by first | (simp [*]; done) | (simp [*]; omega))).trans ?_; try simp [*]) | skip
            all_goals first | (refine (ih.out ((q + 1, far)) _ (by first | omega | grind) (by first | omega | (refine And.intro ?_ ?_; focus omega; (simp [*]; done)) | grind) (by first | (simp [*]; done) | (simp [*]; omega))).trans ?_; try simp [*]) | skip
            all_goals clear hp12
            all_goals clear ih
          · have e : q = l.length := by omega
            subst e
            simp [relaxE]
        · have e : i = p.length := by omega
          subst e
          simp [layL]
      · have hp : layer (m : Int) v l = -1 := by unfold layer; rw [if_neg (by simp; grind [inI])]
        simp [hp, hr]
    · simp only [hc, if_false] at p1
      simp [code, Try.f27, hr, hp12, p1, hc]
      grind [layer]
theorem p27 (b : Bool) (n v : Int) (l : List Ed) (hl : l.length ≤ 1048576) : phi C0 (lim C0) 27 [grTV b n l, (.pv false (.sc (.int .i64 v)))] [] = some ((.pv false (.sc (.int .i64 (layer n v l)))), []) := call0 Try.func27 (by kernel_rfl) (e27 Try.f27 Try.results27 b n v l hl)
end Go.Proofs.Ytopoaemlbnkhgaa
