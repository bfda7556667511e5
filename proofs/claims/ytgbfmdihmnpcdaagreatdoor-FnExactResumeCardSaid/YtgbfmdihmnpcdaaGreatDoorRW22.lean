/- Events that fit, by the reference; what they do. -/
import Derived.Test.YtgbfmdihmnpcdaaGreatDoorRW19
import Derived.Test.YtgbfmdihmnpcdaaGreatDoorRW20
namespace Go.Proofs.YtgbfmdihmnpcdaaGreatDoor
open Go Go.Pm Go.Proofs
set_option linter.unusedVariables false
set_option linter.unusedSimpArgs false
set_option maxRecDepth 100000
set_option maxHeartbeats 4000000
theorem p122 (s : Sta) (e : Ev) (hs : SOk s) (he : EOk e) (hb : evB e = true) (hser : 0 ≤ s.serial ∧ s.serial ≤ 1000000) (b0 : Bool) : phi C0 (lim C0) 122 [.ag [(iv s.serial), (bv s.opn), .pv false (.sl (nums .u8 s.pend)), (iv s.act), .pv b0 (.sl (rws nP s.ents))], .ag [(iv e.kind), .pv false (.sl (nums .u8 e.addr)), (iv e.act), (iv e.val.kind), (iv e.val.n), .pv false (.sl (nums .u8 e.val.s)), .pv false (.sl (rws byP e.val.k)), .pv false (.sl (rws vP e.val.l)), .pv false (.sl (rws byP e.deps))]] [] = some ((bv (mayS s e)), []) := call0 Tryz.func122 (by kernel_rfl) ((show ∀ fn : Func, fn.results = #[.tmp 4] → lim C0 122 fn [.c (code Tryz.f122)] ⟨_, _⟩ = _ from fun fn hr => by
 obtain ⟨n, o, p, a, l⟩ := s
 have q1 := fun b => p118 ⟨n, o, p, a, l⟩ e.addr b hs he.addrB b0
 have q2 := bin_eql (tk := .str) hs.pendB he.addrB
 have q3 := fndN_has e.addr l 0
 obtain ⟨hk, ha, h1, h2⟩ := evB_kind hb
 have hl := hs.ents
 dsimp only at *
 have eM : mayS ⟨n, o, p, a, l⟩ e = (decide (n < 1000000) && (if e.kind = 0 then !o
 else if e.kind = 1 then o && (decide (p = []) && ((hasN e.addr l == decide (e.act ≠ 1)) && (hasN e.addr l || decide (l.length < 16))))
 else if e.kind = 2 then decide (p ≠ []) && (decide (p = e.addr) && decide (a ≠ 4))
 else if e.kind = 3 then decide (p ≠ []) && (decide (p = e.addr) && decide (a = 4))
 else if e.kind = 4 then decide (p ≠ []) && decide (p = e.addr)
 else if e.kind = 5 then o && decide (p = [])
 else o)) := rfl
 rw [eM]
 clear eM
 generalize fndN e.addr l 0 = fn0 at *
 generalize hasN e.addr l = hN at *
 by_cases hm : 1000000 ≤ n
 · have hm2 : ¬ n < 1000000 := by omega
   simp [code, Tryz.f122, hr, hm, hm2]
 have hm2 : n < 1000000 := by omega
 have hpl : p ≠ [] → 0 < p.length ∧ ¬ p.length = 0 := fun h => ⟨List.length_pos_iff.2 h, fun h2 => h (List.length_eq_zero_iff.1 h2)⟩
 rcases hk with k | k | k | k | k | k | k
 · simp [code, Tryz.f122, hr, q1, q2, hm, hm2, k]
 · cases o
   · simp [code, Tryz.f122, hr, q1, q2, q3, hm, hm2, k]
   by_cases hp : p = []
   · subst hp
     simp only [rws_nil] at q1
     cases hN <;> by_cases ha1 : e.act = 1
     · by_cases hl16 : l.length < 16
       · have hl2 : (l.length : Int) < 16 := by omega
         simp [code, Tryz.f122, hr, q1, q2, q3, hm, hm2, k, ha1, hl16, hl2]
       · have hl2 : ¬ (l.length : Int) < 16 := by omega
         simp [code, Tryz.f122, hr, q1, q2, q3, hm, hm2, k, ha1, hl16, hl2]
     · simp [code, Tryz.f122, hr, q1, q2, q3, hm, hm2, k, ha1]
     · simp [code, Tryz.f122, hr, q1, q2, q3, hm, hm2, k, ha1]
     · simp [code, Tryz.f122, hr, q1, q2, q3, hm, hm2, k, ha1]
   · obtain ⟨hp1, hp2⟩ := hpl hp
     simp [code, Tryz.f122, hr, q1, q2, q3, hm, hm2, k, hp, hp1, hp2]
 · by_cases hp : p = []
   · subst hp
     simp only [rws_nil] at q1
     simp [code, Tryz.f122, hr, q1, q2, hm, hm2, k]
   obtain ⟨hp1, hp2⟩ := hpl hp
   by_cases hpe : p = e.addr
   · subst hpe
     by_cases ha4 : a = 4
     · subst ha4
       simp [code, Tryz.f122, hr, q1, q2, hm, hm2, k, hp, hp1]
     · simp [code, Tryz.f122, hr, q1, q2, hm, hm2, k, ha4, hp, hp1]
   · simp [code, Tryz.f122, hr, q1, q2, hm, hm2, k, hp, hp1, hpe]
 · by_cases hp : p = []
   · subst hp
     simp only [rws_nil] at q1
     simp [code, Tryz.f122, hr, q1, q2, hm, hm2, k]
   obtain ⟨hp1, hp2⟩ := hpl hp
   by_cases hpe : p = e.addr
   · subst hpe
     by_cases ha4 : a = 4
     · subst ha4
       simp [code, Tryz.f122, hr, q1, q2, hm, hm2, k, hp, hp1]
     · simp [code, Tryz.f122, hr, q1, q2, hm, hm2, k, ha4, hp, hp1]
   · simp [code, Tryz.f122, hr, q1, q2, hm, hm2, k, hp, hp1, hpe]
 · by_cases hp : p = []
   · subst hp
     simp only [rws_nil] at q1
     simp [code, Tryz.f122, hr, q1, q2, hm, hm2, k]
   obtain ⟨hp1, hp2⟩ := hpl hp
   simp [code, Tryz.f122, hr, q1, q2, hm, hm2, k, hp, hp1]
 · cases o
   · simp [code, Tryz.f122, hr, q1, q2, hm, hm2, k]
   by_cases hp : p = []
   · subst hp
     simp only [rws_nil] at q1
     simp [code, Tryz.f122, hr, q1, q2, hm, hm2, k]
   · obtain ⟨hp1, hp2⟩ := hpl hp
     simp [code, Tryz.f122, hr, q1, q2, hm, hm2, k, hp, hp1, hp2]
 · simp [code, Tryz.f122, hr, q1, q2, hm, hm2, k]
 ) Tryz.f122 Tryz.results122)
end Go.Proofs.YtgbfmdihmnpcdaaGreatDoor
