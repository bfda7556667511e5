/- What the reference's CmdOk and the program's answer. -/
import Derived.Test.YtmfnklfoocebhaaGreatDoorT0
import Derived.Test.YtmfnklfoocebhaaGreatDoorPm4
namespace Go.Proofs.YtmfnklfoocebhaaGreatDoor
open Go Go.Pm Go.Proofs
set_option linter.unusedVariables false
set_option linter.unusedSimpArgs false
set_option maxRecDepth 100000
set_option maxHeartbeats 4000000
abbrev Ed := Int × Int
def edP (e : Ed) : List PV := [.sc (.int .i64 e.1), .sc (.int .i64 e.2)]
def cmpI (a b : Int) : Int := if a < b then -1 else if b < a then 1 else 0
def cmpE (a b : Ed) : Int := if cmpI a.1 b.1 = 0 then cmpI a.2 b.2 else cmpI a.1 b.1
def sortE (l : List Ed) : List Ed := l.mergeSort fun x y => !decide (cmpE y x < 0)
@[simp] theorem maxL_of {n : Nat} (h : n ≤ 9223372036854775807) : n ≤ Pm.maxL := h
@[simp] theorem spare_iff {a b : Nat} : Pm.Spare a b ↔ a < b := Iff.rfl
def okA (a : Int) : Bool := decide (0 ≤ a) && decide (a ≤ 1000000)
def okAs : List Int → Bool
  | [] => true
  | a :: l => okA a && okAs l
def ansI (l : List Int) : Bool := decide (l.length ≤ 100) && okAs l
/-- What isCmd answers. -/
def cmdOk (k : Int) (t : List Int) (n : Int) (a : List Int) : Bool :=
  if k = 0 then decide (t.length ≤ 1200) && decide (n = 0) && ansI a
  else if k = 1 ∨ k = 2 then decide (t.length = 0) && (decide (0 ≤ n) && decide (n ≤ 1000000)) && decide (a.length = 0)
  else if k = 3 then decide (t.length = 0) && (decide (0 ≤ n) && decide (n ≤ 1000000)) && ansI a
  else if k = 4 then decide (t.length = 0) && decide (n = 0) && decide (a.length = 0)
  else false
/-- A command, by its parts. -/
def cmdTV (k : Int) (t : List Int) (n : Int) (a : List Int) : TV := .ag [(.pv false (.sc (.int .i64 k))), .pv false (.sl (nums .u8 t)), (.pv false (.sc (.int .i64 n))), .pv false (.sl (nums .i64 a))]
def szL (n : Nat) (left : Int) : Int := if left - n < 0 then -1 else left - n
def inI (a b c : Int) : Bool := decide (b ≤ a) && decide (a ≤ c)
theorem p20 (a b c : Int) : phi C0 (lim C0) 20 [(.pv false (.sc (.int .i64 a))), (.pv false (.sc (.int .i64 b))), (.pv false (.sc (.int .i64 c)))] [] = some ((.pv false (.sc (.bool (inI a b c)))), []) := call0 Tryz.func20 (by kernel_rfl) ((show ∀ fn : Func, fn.results = #[.tmp 6] → lim C0 20 fn [.c (code Tryz.f20)] ⟨_, _⟩ = _ from fun fn hr => by
  simp [code, Tryz.f20, hr]
  repeat' ((first | refine ifL_cases (fun h => ?_) (fun h => ?_) | refine gI_cases' (fun h => ?_) (fun h => ?_) | refine gI_cases (fun h => ?_) (fun h => ?_) | refine dI_cases' (fun h => ?_) (fun h => ?_) | refine dI_cases (fun h => ?_) (fun h => ?_)) <;> first | replace h := of_decide_eq_true h | replace h := of_decide_eq_false h | skip
           all_goals try simp [*])
  all_goals grind [inI]
  ) Tryz.f20 Tryz.results20)
def findA : List Int → Nat → Int
  | [], _ => -1
  | a :: l, i => bif okA a then findA l (i + 1) else i
theorem findA_ge : ∀ (l : List Int) (i : Nat), decide (0 ≤ findA l i) = !okAs l
  | [], i => by simp [findA, okAs]
  | a :: l, i => by
    have ih := findA_ge l (i + 1)
    cases h : okA a <;> simp [findA, okAs, h, ih]
theorem p52 (a : Int) : phi C0 (lim C0) 52 [(.pv false (.sc (.int .i64 a)))] [] = some ((.pv false (.sc (.bool (!okA a)))), []) := call0 Tryz.func52 (by kernel_rfl) ((show ∀ fn : Func, fn.results = #[.tmp 2] → lim C0 52 fn [.c (code Tryz.f52)] ⟨_, _⟩ = _ from fun fn hr => by
  simp [code, Tryz.f52, hr, p20, okA, inI]
  ) Tryz.f52 Tryz.results52)
theorem p93 (b b' : Bool) (l : List Int) (hl : l.length ≤ 4611686018427387904) : phi C0 (lim C0) 93 [.pv b (.sl (nums .i64 l)), .pv b' (.cl 52 [])] [] = some ((.pv false (.sc (.int .i64 (findA l 0)))), []) := call0 Tryz.func93 (by kernel_rfl) ((show ∀ fn : Func, fn.results = #[.tmp 4] → globs fn = [0, 8, 7, 9, 5, 1, 16, 4] → lim C0 93 fn [.c (code Tryz.f93)] ⟨_, _⟩ = _ from fun fn hr hg => by
  simp [code, Tryz.f93, hr, hg]
  refine (loop_go (s0 := ?s0) (fun i => l.length - i) (fun i => [(8, (.pv false (.sc (.int .i64 ((i : Nat))))))]) (fun i => []) (fun i => some ((.pv false (.sc (.int .i64 (findA (l.drop i) i)))), [])) (fun i => i ≤ l.length) 0 ?hc ?h0 ?hs ?step).trans ?r
  case hc => simp [hg]; rfl
  case h0 => simp [hg]
  case hs => simp [hg]
  case r => simp [hg, hr]
  intro i hi ih
  simp [hg]
  repeat' ((first | refine ifL_cases (fun h => ?_) (fun h => ?_) | refine gI_cases' (fun h => ?_) (fun h => ?_) | refine gI_cases (fun h => ?_) (fun h => ?_) | refine dI_cases' (fun h => ?_) (fun h => ?_) | refine dI_cases (fun h => ?_) (fun h => ?_)) <;> first | replace h := of_decide_eq_true h | replace h := of_decide_eq_false h | skip
           all_goals try simp [p52, *])
  all_goals try simp (disch := omega) only [wrap_id']
  all_goals first | (refine (ih.out (i + 1) _ (by first | omega | grind) (by first | omega | (refine And.intro ?_ ?_; focus omega; (simp [*]; done)) | grind) (by first | (simp [*]; done) | (simp [*]; omega))).trans ?_; try simp [*]) | skip
  all_goals clear ih
  all_goals grind [drop_at, drop_end, findA]
  ) Tryz.f93 Tryz.results93 gl93)
theorem p51 (b b' : Bool) (l : List Int) (hl : l.length ≤ 4611686018427387904) : phi C0 (lim C0) 51 [.pv b (.sl (nums .i64 l)), .pv b' (.cl 52 [])] [] = some ((.pv false (.sc (.bool (!okAs l)))), []) := call0 Tryz.func51 (by kernel_rfl) ((show ∀ fn : Func, fn.results = #[.tmp 4] → lim C0 51 fn [.c (code Tryz.f51)] ⟨_, _⟩ = _ from fun fn hr => by
  have := findA_ge l 0
  simp [code, Tryz.f51, hr, p93, hl, this]
  ) Tryz.f51 Tryz.results51)
theorem p25 (b : Bool) (l : List Int) (hl : l.length ≤ 4611686018427387904) : phi C0 (lim C0) 25 [.pv b (.sl (nums .i64 l))] [] = some ((.pv false (.sc (.bool (ansI l)))), []) := call0 Tryz.func25 (by kernel_rfl) ((show ∀ fn : Func, fn.results = #[.tmp 2] → lim C0 25 fn [.c (code Tryz.f25)] ⟨_, _⟩ = _ from fun fn hr => by
  simp [code, Tryz.f25, hr, p51, hl]
  repeat' ((first | refine ifL_cases (fun h => ?_) (fun h => ?_) | refine gI_cases' (fun h => ?_) (fun h => ?_) | refine gI_cases (fun h => ?_) (fun h => ?_) | refine dI_cases' (fun h => ?_) (fun h => ?_) | refine dI_cases (fun h => ?_) (fun h => ?_)) <;> first | replace h := of_decide_eq_true h | replace h := of_decide_eq_false h | skip
           all_goals try simp [p51, *])
  all_goals grind [ansI]
  ) Tryz.f25 Tryz.results25)
theorem ansI_nil : ansI [] = true := rfl
end Go.Proofs.YtmfnklfoocebhaaGreatDoor
