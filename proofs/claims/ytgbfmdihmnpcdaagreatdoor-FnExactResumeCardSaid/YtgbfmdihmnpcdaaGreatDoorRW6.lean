/- States, by the reference: which are ok; their texts. -/
import Derived.Test.YtgbfmdihmnpcdaaGreatDoorRW3
import Derived.Test.YtgbfmdihmnpcdaaGreatDoorRU7
namespace Go.Proofs.YtgbfmdihmnpcdaaGreatDoor
open Go Go.Pm Go.Proofs
set_option linter.unusedVariables false
set_option linter.unusedSimpArgs false
set_option maxRecDepth 100000
set_option maxHeartbeats 4000000
structure NOk (x : En) : Prop where
 addr : x.addr.length ≤ 1048576
 addrB : byteOk x.addr = true
 vl : VLen x.val
 vb : VBy x.val
 vp : ptV x.val ≤ 1048577
 dl : lenBB x.deps
 db : ∀ y ∈ x.deps, byteOk y = true
structure SOk (s : Sta) : Prop where
 pend : s.pend.length ≤ 1048576
 pendB : byteOk s.pend = true
 ents : s.ents.length ≤ 1048576
 all : ∀ x ∈ s.ents, NOk x
def entB (serial : Int) (x : En) : Bool := addrB x.addr && kmapB x.val && adrsB x.deps && inI x.turned 1 serial
def ascN (serial : Int) : Option (List Int) → List En → Bool
 | _, [] => true
 | none, x :: l => entB serial x && ascN serial (some x.addr) l
 | some q, x :: l => entB serial x && decide (cmpB q x.addr < 0) && ascN serial (some x.addr) l
theorem ascN_at {c : Int} {k : List En} {i : Nat} (h : i < k.length) : ascN c (if i = 0 then none else (k[i-1]?).map (·.addr)) (k.drop i) = (entB c k[i] && (if hi : i = 0 then true else decide (cmpB (k[i-1]'(by omega)).addr k[i].addr < 0)) && ascN c (some k[i].addr) (k.drop (i + 1))) := by
 rw [drop_at h]
 by_cases hi : i = 0
 · subst hi; simp [ascN]
 · rw [if_neg hi, dif_neg hi, List.getElem?_eq_getElem (by omega)]
   rfl
def fndN (a : List Int) : List En → Nat → Int
 | [], _ => -1
 | x :: l, i => if x.addr = a then i else fndN a l (i + 1)
theorem fndN_at {a : List Int} {l : List En} {i : Nat} (h : i < l.length) : fndN a (l.drop i) i = if l[i].addr = a then (i : Int) else fndN a (l.drop (i + 1)) (i + 1) := by rw [drop_at h]; rfl
def hasN (a : List Int) (l : List En) : Bool := l.any fun x => decide (x.addr = a)
theorem fndN_has (a : List Int) : ∀ (l : List En) (i : Nat), decide (0 ≤ fndN a l i) = hasN a l
 | [], i => rfl
 | x :: l, i => by
  have ih := fndN_has a l (i + 1)
  by_cases e : x.addr = a
  · simp [fndN, hasN, e]
  · rw [fndN, if_neg e, ih]
    simp [hasN, e]
def stB (s : Sta) : Bool := inI s.serial 0 1000000 && decide (s.ents.length ≤ 16) && ascN s.serial none s.ents &&
 (if s.pend = [] then decide (s.act = 0) else s.opn && addrB s.pend && inI s.act 1 4 && (hasN s.pend s.ents == decide (s.act ≠ 1)))
theorem p118 (s : Sta) (a : List Int) (b : Bool) (hs : SOk s) (ha : byteOk a = true) (b0 : Bool) : phi C0 (lim C0) 118 [.ag [(iv s.serial), (bv s.opn), .pv false (.sl (nums .u8 s.pend)), (iv s.act), .pv b0 (.sl (rws nP s.ents))], .pv b (.sl (nums .u8 a))] [] = some ((iv (fndN a s.ents 0)), []) := call0 Tryz.func118 (by kernel_rfl) ((show ∀ fn : Func, fn.results = #[.tmp 4] → globs fn = [0, 2, 5, 10, 1, 22, 4] → lim C0 118 fn [.c (code Tryz.f118)] ⟨_, _⟩ = _ from fun fn hr hg => by
 have hp4 := plan118_4
 simp [opsOf, code, Tryz.f118] at hp4
 simp [code, Tryz.f118, hr, hg, hp4]
 refine (loop_to (s0 := ?s1) (fun i => s.ents.length - i) (fun i => [(5, (iv ((i : Nat))))]) (fun i => [(16, .box [(iv s.serial), (bv s.opn), .pv false (.sl (nums .u8 s.pend)), (iv s.act), .pv b0 (.sl (rws nP s.ents))])]) (fun i K => (if 0 ≤ fndN a (s.ents.drop i) i then some ((iv (fndN a (s.ents.drop i) i)), []) else K [(5, (iv s.ents.length))] [(16, .box [(iv s.serial), (bv s.opn), .pv false (.sl (nums .u8 s.pend)), (iv s.act), .pv b0 (.sl (rws nP s.ents))])])) (fun i => i ≤ s.ents.length) 0 ?hc1 ?h01 ?hs1 ?step1).trans ?r1
 case hc1 => simp; rfl
 case h01 => first | (simp; done) | (simp [*]; done) | exact ⟨by simp, ⟨rfl⟩⟩ | grind | (simp; omega)
 case hs1 => first | (simp; done) | (simp [*]; done)
 case r1 =>
  have e : ∀ (l : List En) (i : Nat), fndN a l i = -1 ∨ 0 ≤ fndN a l i := by
   intro l
   induction l with
   | nil => intro i; exact .inl rfl
   | cons x l ih => intro i; simp only [fndN]; split; omega; exact ih (i + 1)
  have := e s.ents 0
  by_cases h : 0 ≤ fndN a s.ents 0
  · simp [hg, h]
  · have h2 : fndN a s.ents 0 = -1 := by omega
    simp [hg, h2, hr, hg, hp4]
 intro k i hi ih
 simp [hg]
 (first | refine ifL_cases (fun h => ?_) (fun h => ?_) | refine gI_cases' (fun h => ?_) (fun h => ?_) | refine gI_cases (fun h => ?_) (fun h => ?_) | refine dI_cases' (fun h => ?_) (fun h => ?_) | refine dI_cases (fun h => ?_) (fun h => ?_)) <;> first | replace h := of_decide_eq_true h | replace h := of_decide_eq_false h | skip
 · have hlt := h
   have q := bin_eql (tk := .str) (hs.all _ (List.getElem_mem hlt)).addrB ha
   simp [hg, hlt, q, hr, hg, hp4]
   rw [fndN_at hlt]
   (first | refine ifL_cases (fun h => ?_) (fun h => ?_) | refine gI_cases' (fun h => ?_) (fun h => ?_) | refine gI_cases (fun h => ?_) (fun h => ?_) | refine dI_cases' (fun h => ?_) (fun h => ?_) | refine dI_cases (fun h => ?_) (fun h => ?_)) <;> first | replace h := of_decide_eq_true h | replace h := of_decide_eq_false h | skip
   · simp [hg, hr, h]
   · simp [hg, h]
     try simp (disch := omega) only [wrap_id']
     have hw2 : IntKind.i64.wrap ((i : Int) + 1) = i + 1 := wrap_id' (by have := hs.ents; omega)
     refine (ih.out (i + 1) _ ?_ ?_ ?_).trans ?_
     · omega
     · omega
     · simp [hg, hw2]
     · simp [hg]
 · have e : i = s.ents.length := by omega
   subst e
   simp [hg, fndN]
 ) Tryz.f118 Tryz.results118 gl118)
end Go.Proofs.YtgbfmdihmnpcdaaGreatDoor
