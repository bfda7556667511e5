/- States, by the reference: which are ok. -/
import Derived.Test.YtgbfmdihmnpcdaaGreatDoorRW11
import Derived.Test.YtgbfmdihmnpcdaaGreatDoorRW12
namespace Go.Proofs.YtgbfmdihmnpcdaaGreatDoor
open Go Go.Pm Go.Proofs
set_option linter.unusedVariables false
set_option linter.unusedSimpArgs false
set_option maxRecDepth 100000
set_option maxHeartbeats 4000000
theorem p83_c (serial : Int) (opn : Bool) (pend : List Int) (act : Int) (ents : List En) (hs : SOk ⟨serial, opn, pend, act, ents⟩) (hn : ¬ (0 ≤ serial ∧ serial ≤ 1000000 ∧ ents.length ≤ 16) ∨ (pend = [] ∧ ¬ act = 0) ∨ (¬ pend = [] ∧ (opn = false ∨ addrB pend = false ∨ ¬ (1 ≤ act ∧ act ≤ 4) ∨ (decide (act = 1) == decide (0 ≤ fndN pend ents 0)) = true))) : phi C0 (lim C0) 83 [.ag [(iv serial), (bv opn), .pv false (.sl (nums .u8 pend)), (iv act), .pv false (.sl (rws nP ents))]] [] = some ((bv false), []) := call0 Tryz.func83 (by kernel_rfl) ((show ∀ fn : Func, fn.results = #[.tmp 2] → globs fn = [0, 1, 19, 3, 54, 66, 4, 71, 5, 124, 2] → lim C0 83 fn [.c (code Tryz.f83)] ⟨_, _⟩ = _ from fun fn hr hg => by
 have hp6 := plan83_6
 simp [opsOf, code, Tryz.f83] at hp6
 have hp12 := plan83_12
 simp [opsOf, code, Tryz.f83] at hp12
 have q1 := p58 pend hs.pend
 rw [addr_is] at q1
 have q2 := fun (o : Bool) (a : Int) b => p118 ⟨serial, o, pend, a, ents⟩ pend b ⟨hs.pend, hs.pendB, hs.ents, hs.all⟩ hs.pendB
 clear hs
 by_cases hG0 : 0 ≤ serial ∧ serial ≤ 1000000 ∧ ents.length ≤ 16
 · have c1 : ¬ serial < 0 := by omega
   have c2 : ¬ 1000000 < serial := by omega
   have c3 : ¬ (16 : Int) < (ents.length : Nat) := by omega
   rcases hn with hn | ⟨hp, h0⟩ | ⟨hp, hn⟩
   · exact absurd hG0 hn
   · subst hp
     clear q1 q2
     simp [code, Tryz.f83, hr, hg, hp6, hp12, c1, c2, c3, h0]
   · have hp1 : 0 < pend.length := List.length_pos_iff.2 hp
     cases opn
     · simp [code, Tryz.f83, hr, hg, hp6, hp12, c1, c2, c3, hp, hp1]
     cases ha : addrB pend
     · rw [ha] at q1
       simp [code, Tryz.f83, hr, hg, hp6, hp12, c1, c2, c3, hp, hp1, q1]
     rw [ha] at q1
     by_cases h1 : act < 1
     · simp [code, Tryz.f83, hr, hg, hp6, hp12, c1, c2, c3, hp, hp1, q1, h1]
     by_cases h2 : 4 < act
     · simp [code, Tryz.f83, hr, hg, hp6, hp12, c1, c2, c3, hp, hp1, q1, h1, h2]
     rcases hn with hn | hn | hn | i5
     · cases hn
     · rw [ha] at hn; cases hn
     · omega
     · simp [code, Tryz.f83, hr, hg, hp6, hp12, c1, c2, c3, hp, hp1, q1, q2, h1, h2, i5]
 · clear hn q1 q2
   by_cases h1 : serial < 0
   · simp [code, Tryz.f83, hr, hg, hp6, hp12, h1]
   by_cases h2 : 1000000 < serial
   · simp [code, Tryz.f83, hr, hg, hp6, hp12, h1, h2]
   · have h3 : (16 : Int) < (ents.length : Nat) := by omega
     simp [code, Tryz.f83, hr, hg, hp6, hp12, h1, h2, h3]
 ) Tryz.f83 Tryz.results83 gl83)
theorem p83 (serial : Int) (opn : Bool) (pend : List Int) (act : Int) (ents : List En) (hs : SOk ⟨serial, opn, pend, act, ents⟩) : phi C0 (lim C0) 83 [.ag [(iv serial), (bv opn), .pv false (.sl (nums .u8 pend)), (iv act), .pv false (.sl (rws nP ents))]] [] = some ((bv (stB ⟨serial, opn, pend, act, ents⟩)), []) := by
 have hh := fndN_has pend ents 0
 have e0 : stB ⟨serial, opn, pend, act, ents⟩ = (inI serial 0 1000000 && decide (ents.length ≤ 16) && ascN serial none ents && (if pend = [] then decide (act = 0) else opn && addrB pend && inI act 1 4 && (hasN pend ents == decide (act ≠ 1)))) := rfl
 rw [e0]
 clear e0
 by_cases hG0 : 0 ≤ serial ∧ serial ≤ 1000000 ∧ ents.length ≤ 16
 · have i1 : inI serial 0 1000000 = true := by (simp [inI]; try omega)
   have i2 : decide (ents.length ≤ 16) = true := by simp; omega
   rw [i1, i2]
   by_cases hp : pend = []
   · rw [if_pos hp]
     by_cases h0 : act = 0
     · subst hp
       subst h0
       have := p83_a serial opn ents hG0 hs.all
       simpa using this
     · have := p83_c serial opn pend act ents hs (.inr (.inl ⟨hp, h0⟩))
       simpa [h0] using this
   · rw [if_neg hp]
     have no : (opn = false ∨ addrB pend = false ∨ ¬ (1 ≤ act ∧ act ≤ 4) ∨ (decide (act = 1) == decide (0 ≤ fndN pend ents 0)) = true) → (opn && addrB pend && inI act 1 4 && (hasN pend ents == decide (act ≠ 1))) = false := by
      rintro (h | h | h | h)
      · simp [h]
      · simp [h]
      · have : inI act 1 4 = false := by (simp [inI]; try omega)
        simp [this]
      · rw [hh] at h
        have : (hasN pend ents == decide (act ≠ 1)) = false := by
         by_cases h1 : act = 1 <;> simp [h1] at h ⊢ <;> exact h
        simp only [this, Bool.and_false]
     by_cases hn : opn = false ∨ addrB pend = false ∨ ¬ (1 ≤ act ∧ act ≤ 4) ∨ (decide (act = 1) == decide (0 ≤ fndN pend ents 0)) = true
     · have := p83_c serial opn pend act ents hs (.inr (.inr ⟨hp, hn⟩))
       rw [no hn]
       simpa using this
     · simp only [not_or, Bool.not_eq_false, Bool.not_eq_true] at hn
       obtain ⟨h1, h2, h3, h4⟩ := hn
       have h3' : 1 ≤ act ∧ act ≤ 4 := by omega
       subst h1
       have := p83_b serial pend act ents hG0 hs.all hp hs.pend hs.pendB h2 h3' h4
       have i3 : inI act 1 4 = true := by (simp [inI]; try omega)
       rw [hh] at h4
       have i4 : (hasN pend ents == decide (act ≠ 1)) = true := by
        by_cases h1 : act = 1 <;> simp [h1] at h4 ⊢ <;> exact h4
       rw [h2, i3, i4]
       simpa using this
 · have hG : (inI serial 0 1000000 && decide (ents.length ≤ 16)) = false := by
     by_cases h1 : ents.length ≤ 16 <;> simp [inI, h1]; omega
   rw [hG]
   have := p83_c serial opn pend act ents hs (.inl hG0)
   simpa using this
end Go.Proofs.YtgbfmdihmnpcdaaGreatDoor
