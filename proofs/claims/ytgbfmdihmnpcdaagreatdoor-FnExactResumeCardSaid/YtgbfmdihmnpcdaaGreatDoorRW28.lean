/- Histories, by the reference: which are ok; their texts. -/
import Derived.Test.YtgbfmdihmnpcdaaGreatDoorRW13
import Derived.Test.YtgbfmdihmnpcdaaGreatDoorRW27
namespace Go.Proofs.YtgbfmdihmnpcdaaGreatDoor
open Go Go.Pm Go.Proofs
set_option linter.unusedVariables false
set_option linter.unusedSimpArgs false
set_option maxRecDepth 100000
set_option maxHeartbeats 4000000
def allE : List Ev → Bool
 | [] => true
 | e :: l => evB e && allE l
theorem allE_is : ∀ l : List Ev, l.all evB = allE l
 | [] => rfl
 | e :: l => by rw [List.all_cons, allE_is l]; rfl
theorem allE_mem {l : List Ev} (h : allE l = true) : ∀ e ∈ l, evB e = true := by
 rw [← allE_is] at h
 exact List.all_eq_true.1 h
theorem p42 (h : His) (ho : HOk h) : phi C0 (lim C0) 42 [.ag [(iv h.base.serial), (bv h.base.opn), .pv false (.sl (nums .u8 h.base.pend)), (iv h.base.act), .pv false (.sl (rws nP h.base.ents)), .pv false (.sl (rws eP h.evs)), (iv h.safe)]] [] = some ((bv (hisB h)), []) := call0 Tryz.func42 (by kernel_rfl) ((show ∀ fn : Func, fn.results = #[.tmp 2] → globs fn = [0, 1, 28, 3, 33, 42, 5, 2] → lim C0 42 fn [.c (code Tryz.f42)] ⟨_, _⟩ = _ from fun fn hr hg => by
 have hp8 := plan42_8
 simp [opsOf, code, Tryz.f42] at hp8
 have q0 := p83 h.base.serial h.base.opn h.base.pend h.base.act h.base.ents ho.base
 unfold hisB
 rw [okS_is, allE_is]
 cases i0 : stB h.base
 · simp [code, Tryz.f42, hr, hg, hp8, q0, i0]
 by_cases i1 : h.evs.length ≤ 300
 · have c1 : ¬ (300 : Int) < (h.evs.length : Nat) := by omega
   by_cases i2 : h.safe < 0
   · have i4 : inI h.safe 0 h.evs.length = false := by simp [hg, inI]; omega
     simp [code, Tryz.f42, hr, hg, hp8, q0, i0, i1, i2, i4, c1]
   by_cases i3 : (h.evs.length : Int) < h.safe
   · have i4 : inI h.safe 0 h.evs.length = false := by simp [hg, inI]; omega
     simp [code, Tryz.f42, hr, hg, hp8, q0, i0, i1, i2, i3, i4, c1]
   have i4 : inI h.safe 0 h.evs.length = true := by simp [hg, inI]; omega
   simp [code, Tryz.f42, hr, hg, hp8, q0, i0, i1, i2, i3, i4, c1]
   refine (loop_to (s0 := ?s1) (fun i => h.evs.length - i) (fun i => [(3, (iv ((i : Nat))))]) (fun i => [(16, .box [(iv h.base.serial), (bv h.base.opn), .pv false (.sl (nums .u8 h.base.pend)), (iv h.base.act), .pv false (.sl (rws nP h.base.ents)), .pv false (.sl (rws eP h.evs)), (iv h.safe)])]) (fun i K => (if allE (h.evs.drop i) = true then K [(3, (iv h.evs.length))] [(16, .box [(iv h.base.serial), (bv h.base.opn), .pv false (.sl (nums .u8 h.base.pend)), (iv h.base.act), .pv false (.sl (rws nP h.base.ents)), .pv false (.sl (rws eP h.evs)), (iv h.safe)])] else some ((bv false), []))) (fun i => i ≤ h.evs.length) 0 ?hc1 ?h01 ?hs1 ?step1).trans ?r1
   case hc1 => simp; rfl
   case h01 => first | (simp; done) | (simp [*]; done) | exact ⟨by simp, ⟨rfl⟩⟩ | grind | (simp; omega)
   case hs1 => first | (simp; done) | (simp [*]; done)
   case r1 =>
    cases ha : allE h.evs
    · simp [hg, ha]
    · have q1 := p85 h ho i0 (allE_mem ha) i1
      rw [foldE_ok] at q1
      generalize (foldE h.base h.evs).1 = fs at *
      simp [hg, ha, q1, hr, hg, hp8]
   intro k i hi ih
   simp [hg]
   by_cases hlt : i < h.evs.length
   · have he := ho.all _ (List.getElem_mem hlt)
     have r1 := p84 h.evs[i] he
     have hd := drop_at hlt
     rw [hd]
     simp only [allE]
     clear hd
     have w3 : IntKind.i64.wrap ((i : Int) + 1) = i + 1 := wrap_id' (by omega)
     by_cases hb : evB h.evs[i] = true
     · rw [hb] at r1
       simp [hg, hlt, r1, hb, w3, hr, hg, hp8]
       refine (ih.out (i + 1) _ ?_ ?_ ?_).trans ?_
       · omega
       · omega
       · simp [hg]
       · simp [hg]
     · have hb : evB h.evs[i] = false := by simpa using hb
       rw [hb] at r1
       simp [hg, hlt, r1, hb, hr, hg, hp8]
   · have e : i = h.evs.length := by omega
     subst e
     simp [hg, allE]
 · have c1 : (300 : Int) < (h.evs.length : Nat) := by omega
   simp [code, Tryz.f42, hr, hg, hp8, q0, i0, i1, c1]
 ) Tryz.f42 Tryz.results42 gl42)
end Go.Proofs.YtgbfmdihmnpcdaaGreatDoor
