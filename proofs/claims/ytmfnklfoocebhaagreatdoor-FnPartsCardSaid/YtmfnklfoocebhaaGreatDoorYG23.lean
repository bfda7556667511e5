/- Draws. -/
import Derived.Test.YtmfnklfoocebhaaGreatDoorYG2
namespace Go.Proofs.YtmfnklfoocebhaaGreatDoor
open Go Go.Pm Go.Proofs
set_option linter.unusedVariables false
set_option linter.unusedSimpArgs false
set_option maxRecDepth 100000
set_option maxHeartbeats 4000000
@[simp] theorem C0_P : C0.P = Tryz.prog := rfl
@[simp] theorem eqT_edge : eqTy Tryz.prog 37 = true := by kernel_rfl
def shrI (a : Int) (n : Nat) : Int := a.fdiv (2 ^ n)
def andI (a b : Int) : Int := IntKind.i64.wrap ((BitVec.ofInt 64 a &&& BitVec.ofInt 64 b).toNat : Int)
def xorI (a b : Int) : Int := IntKind.i64.wrap ((BitVec.ofInt 64 a ^^^ BitVec.ofInt 64 b).toNat : Int)
@[simp] theorem bin_shr33 (t : TK) (a : Int) : binSc t .shr (.int .i64 a) (.int .u64 33) = some (.int .i64 (shrI a 33)) := rfl
@[simp] theorem bin_shr45 (t : TK) (a : Int) : binSc t .shr (.int .i64 a) (.int .u64 45) = some (.int .i64 (shrI a 45)) := rfl
@[simp] theorem bin_and (t : TK) (a b : Int) : binSc t .and (.int .i64 a) (.int .i64 b) = some (.int .i64 (andI a b)) := rfl
@[simp] theorem bin_xor (t : TK) (a b : Int) : binSc t .xor (.int .i64 a) (.int .i64 b) = some (.int .i64 (xorI a b)) := rfl
theorem and255 (a : Int) : 0 ≤ andI a 255 ∧ andI a 255 ≤ 255 := by
  have h : (BitVec.ofInt 64 a &&& BitVec.ofInt 64 255).toNat ≤ 255 := by
    rw [BitVec.toNat_and]
    exact Nat.and_le_right
  unfold andI
  rw [wrap_id' (by omega)]
  omega
/-- A cursor over the bytes of a draw. -/
structure Cur (s : List Int) where
  i : Nat
  h : Int
  ok : i ≤ s.length
def curB (s : List Int) (c : Cur s) : OB := .box [.pv false (.sl (nums .u8 s)), (.pv false (.sc (.int .i64 c.i))), (.pv false (.sc (.int .i64 c.h)))]
attribute [simp] curB
def nxH (h : Int) : Int := IntKind.i64.wrap (IntKind.i64.wrap (h * 6364136223846793005) + 1442695040888963407)
def nxX (h : Int) : Int := andI (xorI (shrI (nxH h) 33) (shrI (nxH h) 45)) 255
def l1b {s : List Int} (c : Cur s) : Int × Cur s := if h : c.i < s.length then (andI (IntKind.i64.wrap (nxX c.h + IntKind.i64.wrap s[c.i])) 255, ⟨c.i + 1, nxH c.h, h⟩) else (nxX c.h, ⟨c.i, nxH c.h, c.ok⟩)
theorem l1b_in {s : List Int} (c : Cur s) : 0 ≤ (l1b c).1 ∧ (l1b c).1 ≤ 255 := by
  unfold l1b
  split
  · exact and255 _
  · exact and255 _
theorem p44 (s : List Int) (c : Cur s) (hs : s.length ≤ 9223372036854775807) : phi C0 (lim C0) 44 [.bp 0 0] [(0, curB s c)] = some ((.pv false (.sc (.int .i64 ((l1b c).1)))), [(0, curB s (l1b c).2)]) := call0 Tryz.func44 (by kernel_rfl) ((show ∀ fn : Func, fn.results = #[.tmp 2] → lim C0 44 fn [.c (code Tryz.f44)] ⟨_, _⟩ = _ from fun fn hr => by
  have hp2 := plan44_2
  simp [opsOf, code, Tryz.f44] at hp2
  have hp3 := plan44_3
  simp [opsOf, code, Tryz.f44] at hp3
  have hp4 := plan44_4
  simp [opsOf, code, Tryz.f44] at hp4
  obtain ⟨i, h, ok⟩ := c
  simp [code, Tryz.f44, hr, hp2, hp3, hp4]
  (first | refine ifL_cases (fun h => ?_) (fun h => ?_) | refine gI_cases' (fun h => ?_) (fun h => ?_) | refine gI_cases (fun h => ?_) (fun h => ?_) | refine dI_cases' (fun h => ?_) (fun h => ?_) | refine dI_cases (fun h => ?_) (fun h => ?_)) <;> first | replace h := of_decide_eq_true h | replace h := of_decide_eq_false h | skip
  · have hb : s[i] = s[i] := rfl
    simp [*, l1b, nxX, nxH]
    try simp (disch := omega) only [wrap_id']
  · simp [*, l1b, nxX, nxH]
  ) Tryz.f44 Tryz.results44)
def l1w (n : Int) {s : List Int} (c : Cur s) : Int × Cur s := if n ≤ 0 then (0, c) else ((l1b c).1.tmod n, (l1b c).2)
theorem l1w_in {n : Int} (h : 0 < n) {s : List Int} (c : Cur s) : 0 ≤ (l1w n c).1 ∧ (l1w n c).1 < n := by
  have h1 := l1b_in c
  unfold l1w
  rw [if_neg (by omega)]
  exact ⟨Int.tmod_nonneg _ h1.1, Int.tmod_lt_of_pos _ h⟩
theorem p18 (s : List Int) (c : Cur s) (n : Int) (hs : s.length ≤ 9223372036854775807) (hn : n ≤ 256) : phi C0 (lim C0) 18 [.bp 0 0, (.pv false (.sc (.int .i64 n)))] [(0, curB s c)] = some ((.pv false (.sc (.int .i64 ((l1w n c).1)))), [(0, curB s (l1w n c).2)]) := call0 Tryz.func18 (by kernel_rfl) ((show ∀ fn : Func, fn.results = #[.tmp 4] → lim C0 18 fn [.c (code Tryz.f18)] ⟨_, _⟩ = _ from fun fn hr => by
  have p1 := p44 s c hs
  simp only [curB] at p1
  simp [code, Tryz.f18, hr]
  (first | refine ifL_cases (fun h => ?_) (fun h => ?_) | refine gI_cases' (fun h => ?_) (fun h => ?_) | refine gI_cases (fun h => ?_) (fun h => ?_) | refine dI_cases' (fun h => ?_) (fun h => ?_) | refine dI_cases (fun h => ?_) (fun h => ?_)) <;> first | replace h := of_decide_eq_true h | replace h := of_decide_eq_false h | skip
  · simp [*, l1w]
  · have h0 : ¬ n = 0 := by omega
    have hb : ∀ (t : TK) (a : Int), binSc t .rem (.int .i64 a) (.int .i64 n) = some (.int .i64 (a.tmod n)) := fun t a => by apply bin_rem; exact h0
    simp [*, l1w]
  ) Tryz.f18 Tryz.results18)
theorem p19 (s : List Int) (c : Cur s) (n : Int) (hs : s.length ≤ 9223372036854775807) (hn : n ≤ 256) : phi C0 (lim C0) 19 [.bp 0 0, (.pv false (.sc (.int .i64 n)))] [(0, curB s c)] = some ((.pv false (.sc (.bool (decide ((l1w n c).1 = 0))))), [(0, curB s (l1w n c).2)]) := call0 Tryz.func19 (by kernel_rfl) ((show ∀ fn : Func, fn.results = #[.tmp 4] → lim C0 19 fn [.c (code Tryz.f19)] ⟨_, _⟩ = _ from fun fn hr => by
  have p1 := p18 s c n hs hn
  simp only [curB] at p1
  simp [code, Tryz.f19, hr, p1]
  ) Tryz.f19 Tryz.results19)
theorem p43 (s : List Int) (c : Cur s) (b : Bool) (l : List Int) (hs : s.length ≤ 9223372036854775807) (h0 : 0 < l.length) (hn : l.length ≤ 256) : phi C0 (lim C0) 43 [.bp 0 0, .pv b (.sl (nums .i64 l))] [(0, curB s c)] = some ((.pv false (.sc (.int .i64 (l.getD (l1w l.length c).1.toNat 0)))), [(0, curB s (l1w l.length c).2)]) := call0 Tryz.func43 (by kernel_rfl) ((show ∀ fn : Func, fn.results = #[.tmp 4] → lim C0 43 fn [.c (code Tryz.f43)] ⟨_, _⟩ = _ from fun fn hr => by
  have p1 := p18 s c l.length hs (by omega)
  have h1 := l1w_in (n := l.length) (by omega) c
  have h2 : (l1w l.length c).1.toNat < l.length := by omega
  simp only [curB] at p1
  simp [code, Tryz.f43, hr, p1, h1, h2]
  ) Tryz.f43 Tryz.results43)
def stH (h x : Int) : Int := andI (IntKind.i64.wrap (IntKind.i64.wrap (IntKind.i64.wrap (h * 131) + IntKind.i64.wrap x) + 7)) 1073741823
def seedF : List Int → Int → Int
  | [], h => h
  | x :: l, h => seedF l (stH h x)
def cur0 (s : List Int) : Cur s := ⟨0, seedF (s.take 4000) (IntKind.i64.wrap (40707 + s.length)), Nat.zero_le _⟩
theorem p16 (s : List Int) (hs : s.length ≤ 9223372036854775807) : phi C0 (lim C0) 16 [.pv false (.sl (nums .u8 s))] [] = some (.bp 16 0, [(16, curB s (cur0 s))]) := call0 Tryz.func16 (by kernel_rfl) ((show ∀ fn : Func, fn.results = #[.tmp 2] → globs fn = [0, 4, 15, 3, 2] → lim C0 16 fn [.c (code Tryz.f16)] ⟨_, _⟩ = _ from fun fn hr hg => by
  simp [code, Tryz.f16, hr, hg]
  refine (loop_go (s0 := ?s1) (fun x => 4000 - x.1) (fun x => [(3, (.pv false (.sc (.int .i64 x.2)))), (4, (.pv false (.sc (.int .i64 ((x.1 : Nat))))))]) (fun x => []) (fun x => some (.bp 16 0, [(16, .box [.pv false (.sl (nums .u8 s)), (.pv false (.sc (.int .i64 0))), (.pv false (.sc (.int .i64 (seedF ((s.take 4000).drop x.1) x.2))))])])) (fun x => x.1 ≤ 4000 ∧ x.1 ≤ s.length) ((0 : Nat), IntKind.i64.wrap (40707 + s.length)) ?hc1 ?h01 ?hs1 ?step1).trans ?r1
  case hc1 => simp; rfl
  case h01 => first | (simp; done) | (simp [*]; done) | exact ⟨by simp, ⟨rfl⟩⟩ | grind | (simp; omega)
  case hs1 => first | (simp; done) | (simp [*]; done)
  case r1 => simp [hg, cur0]
  rintro ⟨i, g⟩ ⟨hi, hi2⟩ ih
  simp at hi hi2
  simp [hg]
  (first | refine ifL_cases (fun h => ?_) (fun h => ?_) | refine gI_cases' (fun h => ?_) (fun h => ?_) | refine gI_cases (fun h => ?_) (fun h => ?_) | refine dI_cases' (fun h => ?_) (fun h => ?_) | refine dI_cases (fun h => ?_) (fun h => ?_)) <;> first | replace h := of_decide_eq_true h | replace h := of_decide_eq_false h | skip
  · have c1 := h
    simp [hg, c1]
    (first | refine ifL_cases (fun h => ?_) (fun h => ?_) | refine gI_cases' (fun h => ?_) (fun h => ?_) | refine gI_cases (fun h => ?_) (fun h => ?_) | refine dI_cases' (fun h => ?_) (fun h => ?_) | refine dI_cases (fun h => ?_) (fun h => ?_)) <;> first | replace h := of_decide_eq_true h | replace h := of_decide_eq_false h | skip
    · have c2 : i < 4000 := by omega
      have hd : (s.take 4000).drop i = s[i] :: (s.take 4000).drop (i + 1) := by
        rw [drop_at (show i < (s.take 4000).length by simp [hg]; omega)]
        simp [hg]
      have c3 : (i : Int) < 4000 := by omega
      simp [hg, c1, c2, c3]
      refine (ih.out (i + 1, stH g s[i]) _ ?_ ?_ ?_).trans ?_
      · simp [hg]; omega
      · exact ⟨by simp [hg]; omega, by simp [hg]; omega⟩
      · simp [hg, stH]
        try simp (disch := omega) only [wrap_id']
      · rw [hd]; rfl
    · have c2 : (s.take 4000).drop i = [] := List.drop_eq_nil_of_le (by simp [hg]; omega)
      have c3 : ¬ (i : Int) < 4000 := by omega
      have c4 : ¬ i < 4000 := by omega
      simp [hg, c2, c3, c4, seedF, hr]
  · have c2 : (s.take 4000).drop i = [] := List.drop_eq_nil_of_le (by simp [hg]; omega)
    simp [hg, h, c2, seedF, hr]
  ) Tryz.f16 Tryz.results16 gl16)
end Go.Proofs.YtmfnklfoocebhaaGreatDoor
