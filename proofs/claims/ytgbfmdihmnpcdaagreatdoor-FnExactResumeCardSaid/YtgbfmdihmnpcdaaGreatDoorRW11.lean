/- States, by the reference: which are ok, where nothing is pending. -/
import Derived.Test.YtgbfmdihmnpcdaaGreatDoorRW6
namespace Go.Proofs.YtgbfmdihmnpcdaaGreatDoor
open Go Go.Pm Go.Proofs
set_option linter.unusedVariables false
set_option linter.unusedSimpArgs false
set_option maxRecDepth 100000
set_option maxHeartbeats 4000000
theorem p83_a (serial : Int) (opn : Bool) (ents : List En) (hG0 : 0 ≤ serial ∧ serial ≤ 1000000 ∧ ents.length ≤ 16) (hall : ∀ x ∈ ents, NOk x) : phi C0 (lim C0) 83 [.ag [(iv serial), (bv opn), .pv false (.sl ([])), (iv 0), .pv false (.sl (rws nP ents))]] [] = some ((bv (ascN serial none ents)), []) := call0 Tryz.func83 (by kernel_rfl) ((show ∀ fn : Func, fn.results = #[.tmp 2] → globs fn = [0, 1, 19, 3, 54, 66, 4, 71, 5, 124, 2] → lim C0 83 fn [.c (code Tryz.f83)] ⟨_, _⟩ = _ from fun fn hr hg => by
 have hp6 := plan83_6
 simp [opsOf, code, Tryz.f83] at hp6
 have hp12 := plan83_12
 simp [opsOf, code, Tryz.f83] at hp12
 have c1 : ¬ serial < 0 := by omega
 have c2 : ¬ 1000000 < serial := by omega
 have c3 : ¬ (16 : Int) < (ents.length : Nat) := by omega
 simp [code, Tryz.f83, hr, hg, hp6, hp12, c1, c2, c3]
 refine (loop_to (s0 := ?s1) (fun i => ents.length - i) (fun i => [(4, (iv ((i : Nat))))]) (fun i => [(16, .box [(iv serial), (bv opn), .pv false (.sl ([])), (iv 0), .pv false (.sl (rws nP ents))])]) (fun i K => (if ascN serial (if i = 0 then none else (ents[i-1]?).map (·.addr)) (ents.drop i) then K [(4, (iv ents.length))] [(16, .box [(iv serial), (bv opn), .pv false (.sl ([])), (iv 0), .pv false (.sl (rws nP ents))])] else some ((bv false), []))) (fun i => i ≤ ents.length) 0 ?hc1 ?h01 ?hs1 ?step1).trans ?r1
 case hc1 => simp; rfl
 case h01 => first | (simp; done) | (simp [*]; done) | exact ⟨by simp, ⟨rfl⟩⟩ | grind | (simp; omega)
 case hs1 => first | (simp; done) | (simp [*]; done)
 case r1 =>
  cases ha : ascN serial none ents
  · simp [hg, ha]
  · simp [hg, ha, hr, hg, hp6, hp12]
 intro k i hi ih
 simp [hg]
 (first | refine ifL_cases (fun h => ?_) (fun h => ?_) | refine gI_cases' (fun h => ?_) (fun h => ?_) | refine gI_cases (fun h => ?_) (fun h => ?_) | refine dI_cases' (fun h => ?_) (fun h => ?_) | refine dI_cases (fun h => ?_) (fun h => ?_)) <;> first | replace h := of_decide_eq_true h | replace h := of_decide_eq_false h | skip
 · have hlt : i < ents.length := h
   have hx := hall _ (List.getElem_mem hlt)
   have r1 := p58 ents[i].addr hx.addr
   rw [addr_is] at r1
   have r2 := fun b1 b2 b3 => p119 ents[i].val hx.vl hx.vb b1 b2 b3
   have r3 := fun b => p120 b ents[i].deps hx.dl hx.db
   have ea := ascN_at (c := serial) hlt
   have eg : ents[i]? = some ents[i] := List.getElem?_eq_getElem hlt
   have ee : entB serial ents[i] = (addrB ents[i].addr && kmapB ents[i].val && adrsB ents[i].deps && inI ents[i].turned 1 serial) := rfl
   have hw2 : IntKind.i64.wrap ((i : Int) + 1) = i + 1 := wrap_id' (by omega)
   have e9 : ∃ o, (if i = 0 then none else (ents[i-1]?).map (·.addr)) = o := ⟨_, rfl⟩
   by_cases hi0 : i = 0
   · subst hi0
     simp at ea
     cases h1 : addrB ents[0].addr
     · simp [hr, hg, hp6, hp12, hlt, r1, ea, ee, h1]
     cases h2 : kmapB ents[0].val
     · simp [hr, hg, hp6, hp12, hlt, r1, r2, ea, ee, h1, h2]
     cases h3 : adrsB ents[0].deps
     · simp [hr, hg, hp6, hp12, hlt, r1, r2, r3, ea, ee, h1, h2, h3]
     by_cases h4 : ents[0].turned < 1
     · have d : inI ents[0].turned 1 serial = false := by (simp [hg, inI]; try omega)
       simp [hr, hg, hp6, hp12, hlt, r1, r2, r3, ea, ee, h1, h2, h3, h4, d]
     by_cases h5 : serial < ents[0].turned
     · have d : inI ents[0].turned 1 serial = false := by (simp [hg, inI]; try omega)
       simp [hr, hg, hp6, hp12, hlt, r1, r2, r3, ea, ee, h1, h2, h3, h4, h5, d]
     · have d : inI ents[0].turned 1 serial = true := by (simp [hg, inI]; try omega)
       simp [hr, hg, hp6, hp12, hlt, r1, r2, r3, ea, ee, h1, h2, h3, h4, h5, d]
       refine (ih.out 1 _ ?_ ?_ ?_).trans ?_
       · omega
       · omega
       · simp [hg]
       · simp [hg, eg]
   · obtain ⟨j, hj⟩ : ∃ j, j + 1 = i := ⟨i - 1, by omega⟩
     have hij : i - 1 = j := by omega
     have hlj : j < ents.length := by omega
     have r4 := bin_geq (tk := .str) (hall _ (List.getElem_mem hlj)).addrB hx.addrB
     have hw : IntKind.i64.wrap ((i : Int) - 1) = (j : Int) := by rw [show (i : Int) - 1 = j by omega]; exact wrap_id' (by omega)
     simp only [hij, hi0, if_false, dite_false, List.getElem?_eq_getElem hlj, Option.map_some] at ea
     have e3 : 0 < i := by omega
     simp only [hi0, if_false, hij, List.getElem?_eq_getElem hlj, Option.map_some]
     cases h1 : addrB ents[i].addr
     · simp [hr, hg, hp6, hp12, hlt, r1, ea, ee, h1]
     cases h2 : kmapB ents[i].val
     · simp [hr, hg, hp6, hp12, hlt, r1, r2, ea, ee, h1, h2]
     cases h3 : adrsB ents[i].deps
     · simp [hr, hg, hp6, hp12, hlt, r1, r2, r3, ea, ee, h1, h2, h3]
     by_cases h4 : ents[i].turned < 1
     · have d : inI ents[i].turned 1 serial = false := by (simp [hg, inI]; try omega)
       simp [hr, hg, hp6, hp12, hlt, r1, r2, r3, ea, ee, h1, h2, h3, h4, d]
     by_cases h5 : serial < ents[i].turned
     · have d : inI ents[i].turned 1 serial = false := by (simp [hg, inI]; try omega)
       simp [hr, hg, hp6, hp12, hlt, r1, r2, r3, ea, ee, h1, h2, h3, h4, h5, d]
     have d : inI ents[i].turned 1 serial = true := by (simp [hg, inI]; try omega)
     by_cases h6 : cmpB ents[j].addr ents[i].addr < 0
     · simp [hr, hg, hp6, hp12, hlt, hlj, r1, r2, r3, r4, ea, ee, h1, h2, h3, h4, h5, h6, d, hw, e3]
       refine (ih.out (i + 1) _ ?_ ?_ ?_).trans ?_
       · omega
       · omega
       · simp [hg, hw2]
       · simp [hg, eg]
     · simp [hr, hg, hp6, hp12, hlt, hlj, r1, r2, r3, r4, ea, ee, h1, h2, h3, h4, h5, h6, d, hw, e3]
 · have e : i = ents.length := by omega
   subst e
   simp [hg, ascN]
 ) Tryz.f83 Tryz.results83 gl83)
end Go.Proofs.YtgbfmdihmnpcdaaGreatDoor
