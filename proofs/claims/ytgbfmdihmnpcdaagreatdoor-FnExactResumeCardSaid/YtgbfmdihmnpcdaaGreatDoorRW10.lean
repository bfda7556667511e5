/- States, by the program: which are ok. -/
import Derived.Test.YtgbfmdihmnpcdaaGreatDoorRW6
import Derived.Test.YtgbfmdihmnpcdaaGreatDoorRW9
namespace Go.Proofs.YtgbfmdihmnpcdaaGreatDoor
open Go Go.Pm Go.Proofs
set_option linter.unusedVariables false
set_option linter.unusedSimpArgs false
set_option maxRecDepth 100000
set_option maxHeartbeats 4000000
theorem ascN_pair {c : Int} : ∀ {l : List En} {o : Option (List Int)}, ascN c o l = true → (∀ q, o = some q → ∀ x ∈ l, cmpB q x.addr < 0) ∧ l.Pairwise (fun x y => cmpB x.addr y.addr < 0) ∧ ∀ x ∈ l, entB c x = true
 | [], o, _ => ⟨fun _ _ x hx => (by cases hx), .nil, fun x hx => (by cases hx)⟩
 | x :: l, o, h => by
  have h1 : entB c x = true ∧ (∀ q, o = some q → cmpB q x.addr < 0) ∧ ascN c (some x.addr) l = true := by
   cases o with
   | none =>
    simp only [ascN, Bool.and_eq_true] at h
    exact ⟨h.1, fun q hq => (by cases hq), h.2⟩
   | some q =>
    simp only [ascN, Bool.and_eq_true, decide_eq_true_eq] at h
    exact ⟨h.1.1, fun q' hq => (by cases hq; exact h.1.2), h.2⟩
  obtain ⟨a1, a2, a3⟩ := ascN_pair h1.2.2
  refine ⟨fun q hq y hy => ?_, .cons (fun y hy => a1 _ rfl y hy) a2, fun y hy => ?_⟩
  · rcases List.mem_cons.1 hy with rfl | hy
    · exact h1.2.1 q hq
    · exact cmpB_trans (h1.2.1 q hq) (a1 _ rfl y hy)
  · rcases List.mem_cons.1 hy with rfl | hy
    · exact h1.1
    · exact a3 y hy
theorem ascN_srt {c : Int} {o : Option (List Int)} {l : List En} (h : ascN c o l = true) : Srt l := by
 intro s t x y hst hx hy
 have hp := (ascN_pair h).2.1
 rw [List.pairwise_iff_getElem] at hp
 obtain ⟨h1, rfl⟩ := List.getElem?_eq_some_iff.1 hx
 obtain ⟨h2, rfl⟩ := List.getElem?_eq_some_iff.1 hy
 exact hp s t h1 h2 hst
theorem p126 (serial : Int) (opn : Bool) (pend : List Int) (act : Int) (ents : List En) (hs : SOk ⟨serial, opn, pend, act, ents⟩) : phi C0 (lim C0) 126 [.ag [(iv serial), (bv opn), .pv false (.sl (nums .u8 pend)), (iv act), .pv false (.sl (rws nP ents))]] [] = some ((bv (stB ⟨serial, opn, pend, act, ents⟩)), []) := call0 Tryz.func126 (by kernel_rfl) ((show ∀ fn : Func, fn.results = #[.tmp 2] → globs fn = [0, 1, 16, 20, 19, 21, 18, 4, 3, 65, 70, 6, 2] → lim C0 126 fn [.c (code Tryz.f126)] ⟨_, _⟩ = _ from fun fn hr hg => by
 have hp6 := plan126_6
 simp [opsOf, code, Tryz.f126] at hp6
 have hp11 := plan126_11
 simp [opsOf, code, Tryz.f126] at hp11
 have hl : ents.length ≤ 1048576 := hs.ents
 have hall : ∀ x ∈ ents, NOk x := hs.all
 have q0 := p66
 have q1 := p68 pend hs.pendB hs.pend
 have q2 := fun (o : Bool) (a : Int) b => p155 serial o pend a ents pend b hl (fun x hx => (hall x hx).addrB) hs.pendB
 have e0 : stB ⟨serial, opn, pend, act, ents⟩ = (inI serial 0 1000000 && decide (ents.length ≤ 16) && ascN serial none ents && (if pend = [] then decide (act = 0) else opn && addrB pend && inI act 1 4 && (hasN pend ents == decide (act ≠ 1)))) := rfl
 rw [e0]
 clear e0 hs
 cases i1 : inI serial 0 1000000
 · simp [code, Tryz.f126, hr, hg, hp6, hp11, q0, i1]
 by_cases i2 : ents.length ≤ 16
 · have c3 : ¬ (16 : Int) < (ents.length : Nat) := by omega
   have i0 : 0 ≤ serial ∧ serial ≤ 1000000 := by simpa [inI] using i1
   simp [code, Tryz.f126, hr, hg, hp6, hp11, q0, i1, i2, c3]
   refine (loop_to (s0 := ?s1) (fun i => ents.length - i) (fun i => [(20, (iv ((i : Nat))))]) (fun i => [(16, .box [(iv serial), (bv opn), .pv false (.sl (nums .u8 pend)), (iv act), .pv false (.sl (rws nP ents))])]) (fun i K => (if ascN serial (if i = 0 then none else (ents[i-1]?).map (·.addr)) (ents.drop i) then K [(20, (iv ents.length))] [(16, .box [(iv serial), (bv opn), .pv false (.sl (nums .u8 pend)), (iv act), .pv false (.sl (rws nP ents))])] else some ((bv false), []))) (fun i => i ≤ ents.length) 0 ?hc1 ?h01 ?hs1 ?step1).trans ?r1
   case hc1 => simp; rfl
   case h01 => first | (simp; done) | (simp [*]; done) | exact ⟨by simp, ⟨rfl⟩⟩ | grind | (simp; omega)
   case hs1 => first | (simp; done) | (simp [*]; done)
   case r1 =>
    cases ha : ascN serial none ents
    · simp [hg, ha]
    · have hf : fdN pend ents (bsN pend ents 0 ents.length) = hasN pend ents := fdN_has (ascN_srt ha)
      generalize bsN pend ents 0 ents.length = bi at *
      generalize fdN pend ents bi = bf at *
      simp only [hf] at q2
      by_cases hp : pend = []
      · simp [hg, ha, hp, hr, hg, hp6, hp11]
      · have hp1 : 0 < pend.length := List.length_pos_iff.2 hp
        have hp2 : pend.length ≠ 0 := by omega
        cases opn
        · simp [hg, ha, hp, hp1, hp2, q2, hr, hg, hp6, hp11]
        cases h1 : addrB pend
        · simp [hg, ha, hp, hp1, hp2, q1, q2, h1, hr, hg, hp6, hp11]
        cases h2 : inI act 1 4
        · simp [hg, ha, hp, hp1, hp2, q0, q1, q2, h1, h2, hr, hg, hp6, hp11]
        · simp [hg, ha, hp, hp1, hp2, q0, q1, q2, h1, h2, hr, hg, hp6, hp11]
   intro k i hi ih
   simp [hg]
   (first | refine ifL_cases (fun h => ?_) (fun h => ?_) | refine gI_cases' (fun h => ?_) (fun h => ?_) | refine gI_cases (fun h => ?_) (fun h => ?_) | refine dI_cases' (fun h => ?_) (fun h => ?_) | refine dI_cases (fun h => ?_) (fun h => ?_)) <;> first | replace h := of_decide_eq_true h | replace h := of_decide_eq_false h | skip
   · have hlt : i < ents.length := h
     have hx := hall _ (List.getElem_mem hlt)
     have r1 := p68 ents[i].addr hx.addrB hx.addr
     have r2 := fun b1 b2 b3 => p153 ents[i].val hx.vl hx.vb (by have := hx.vp; omega) b1 b2 b3
     have r3 := fun b => p154 b ents[i].deps hx.dl hx.db
     have r5 := p66 ents[i].turned 1 serial
     have ea := ascN_at (c := serial) hlt
     have eg : ents[i]? = some ents[i] := List.getElem?_eq_getElem hlt
     have ee : entB serial ents[i] = (addrB ents[i].addr && kmapB ents[i].val && adrsB ents[i].deps && inI ents[i].turned 1 serial) := rfl
     have hw2 : IntKind.i64.wrap ((i : Int) + 1) = i + 1 := wrap_id' (by omega)
     by_cases hi0 : i = 0
     · subst hi0
       simp at ea
       cases h1 : addrB ents[0].addr
       · simp [hr, hg, hp6, hp11, hlt, r1, ea, ee, h1]
       cases h2 : kmapB ents[0].val
       · simp [hr, hg, hp6, hp11, hlt, r1, r2, ea, ee, h1, h2]
       cases h3 : adrsB ents[0].deps
       · simp [hr, hg, hp6, hp11, hlt, r1, r2, r3, ea, ee, h1, h2, h3]
       cases h4 : inI ents[0].turned 1 serial
       · simp [hr, hg, hp6, hp11, hlt, r1, r2, r3, r5, ea, ee, h1, h2, h3, h4]
       · simp [hr, hg, hp6, hp11, hlt, r1, r2, r3, r5, ea, ee, h1, h2, h3, h4]
         refine (ih.out 1 _ ?_ ?_ ?_).trans ?_
         · omega
         · omega
         · simp [hg]
         · simp [hg, eg]
     · obtain ⟨j, hj⟩ : ∃ j, j + 1 = i := ⟨i - 1, by omega⟩
       have hij : i - 1 = j := by omega
       have hlj : j < ents.length := by omega
       have r4 := fun b b' => p145 b b' ents[j].addr ents[i].addr (hall _ (List.getElem_mem hlj)).addrB hx.addrB
       have hw : IntKind.i64.wrap ((i : Int) - 1) = (j : Int) := by rw [show (i : Int) - 1 = j by omega]; exact wrap_id' (by omega)
       simp only [hij, hi0, if_false, dite_false, List.getElem?_eq_getElem hlj, Option.map_some] at ea
       have e3 : 0 < i := by omega
       simp only [hi0, if_false, hij, List.getElem?_eq_getElem hlj, Option.map_some]
       cases h1 : addrB ents[i].addr
       · simp [hr, hg, hp6, hp11, hlt, r1, ea, ee, h1]
       by_cases h6 : cmpB ents[j].addr ents[i].addr < 0
       · have h7 : ¬ 0 ≤ cmpB ents[j].addr ents[i].addr := by omega
         cases h2 : kmapB ents[i].val
         · simp [hr, hg, hp6, hp11, hlt, hlj, r1, r2, r4, ea, ee, h1, h2, h6, h7, hw, e3]
         cases h3 : adrsB ents[i].deps
         · simp [hr, hg, hp6, hp11, hlt, hlj, r1, r2, r3, r4, ea, ee, h1, h2, h3, h6, h7, hw, e3]
         cases h4 : inI ents[i].turned 1 serial
         · simp [hr, hg, hp6, hp11, hlt, hlj, r1, r2, r3, r4, r5, ea, ee, h1, h2, h3, h4, h6, h7, hw, e3]
         · simp [hr, hg, hp6, hp11, hlt, hlj, r1, r2, r3, r4, r5, ea, ee, h1, h2, h3, h4, h6, h7, hw, e3]
           refine (ih.out (i + 1) _ ?_ ?_ ?_).trans ?_
           · omega
           · omega
           · simp [hg, hw2]
           · simp [hg, eg]
       · have h7 : 0 ≤ cmpB ents[j].addr ents[i].addr := by omega
         simp [hr, hg, hp6, hp11, hlt, hlj, r1, r4, ea, ee, h1, h6, h7, hw, e3]
   · have e : i = ents.length := by omega
     subst e
     simp [hg, ascN]
 · have c3 : (16 : Int) < (ents.length : Nat) := by omega
   simp [code, Tryz.f126, hr, hg, hp6, hp11, q0, i1, i2, c3]
 ) Tryz.f126 Tryz.results126 gl126)
end Go.Proofs.YtgbfmdihmnpcdaaGreatDoor
