/- Leads, by the program. -/
import Derived.Test.YtopoaemlbnkhgaaG26
import Derived.Test.YtopoaemlbnkhgaaG13
namespace Go.Proofs.Ytopoaemlbnkhgaa
open Go Go.Pm Go.Proofs
set_option linter.unusedVariables false
set_option linter.unusedSimpArgs false
set_option maxRecDepth 100000 in
set_option maxHeartbeats 4000000 in
theorem e23 (fn : Func) (hr : fn.results = #[.tmp 2]) (b : Bool) (n : Int) (l : List Ed) (hl : l.length ≤ 1048576) : lim C0 23 fn [.c (code Try.f23)] ⟨number [grTV b n l] 0, []⟩ = some ((.pv false (.sc (.bool (gOk n l)))), []) := by
  have p1 := p59
  simp only [grTV] at p1
  simp [code, Try.f23, hr, p1, hl]
theorem p23 (b : Bool) (n : Int) (l : List Ed) (hl : l.length ≤ 1048576) : phi C0 (lim C0) 23 [grTV b n l] [] = some ((.pv false (.sc (.bool (gOk n l)))), []) := call0 Try.func23 (by kernel_rfl) (e23 Try.f23 Try.results23 b n l hl)
set_option maxRecDepth 100000 in
set_option maxHeartbeats 4000000 in
theorem e22 (fn : Func) (hr : fn.results = #[.tmp 6]) (b : Bool) (n : Nat) (l : List Ed) (a c : Nat) (hn : n ≤ 20) (hl : l.length ≤ 400) (hg : gOk n l = true) (he : ∀ e ∈ l, edIn n e = true) (ha : a < n) (hc : c < n) : lim C0 22 fn [.c (code Try.f22)] ⟨number [grTV b n l, (.pv false (.sc (.int .i64 ((a : Nat))))), (.pv false (.sc (.int .i64 ((c : Nat)))))] 0, []⟩ = some ((.pv false (.sc (.bool (hasI (waysL n l he [(a : Int)] []) c)))), []) := by
  have p1 := fun b => p59 b n l (by omega)
  have p2 := fun b h => p58 b n l a hn hl he h
  have hw : IntKind.i64.wrap ((n : Int) - 1) = n - 1 := wrap_id' (by omega)
  have e1 : inI a 0 ((n : Int) - 1) = true := by simp only [inI]; grind
  have e2 : inI c 0 ((n : Int) - 1) = true := by simp only [inI]; grind
  have c20 : c < 20 ∧ (c : Int) < 20 := by omega
  simp only [grTV] at p1 p2
  simp [code, Try.f22, hr, p1, hg, hw, p60, e1, e2, p2, ha, c20]
theorem p22 (b : Bool) (n : Nat) (l : List Ed) (a c : Nat) (hn : n ≤ 20) (hl : l.length ≤ 400) (hg : gOk n l = true) (he : ∀ e ∈ l, edIn n e = true) (ha : a < n) (hc : c < n) : phi C0 (lim C0) 22 [grTV b n l, (.pv false (.sc (.int .i64 ((a : Nat))))), (.pv false (.sc (.int .i64 ((c : Nat)))))] [] = some ((.pv false (.sc (.bool (hasI (waysL n l he [(a : Int)] []) c)))), []) := call0 Try.func22 (by kernel_rfl) (e22 Try.f22 Try.results22 b n l a c hn hl hg he ha hc)
end Go.Proofs.Ytopoaemlbnkhgaa
