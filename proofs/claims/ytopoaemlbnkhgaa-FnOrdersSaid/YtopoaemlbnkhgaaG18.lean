/- An edge is left away. -/
import Derived.Test.YtopoaemlbnkhgaaG17
namespace Go.Proofs.Ytopoaemlbnkhgaa
open Go Go.Pm Go.Proofs
set_option linter.unusedVariables false
set_option linter.unusedSimpArgs false
def delE (l : List Ed) (i : Nat) : List Ed := l.eraseIdx i ++ [(0, 0)]
set_option maxRecDepth 100000 in
set_option maxHeartbeats 4000000 in
theorem e57 (fn : Func) (hr : fn.results = #[.tmp 6]) (l : List Ed) (i : Nat) (hi : i < l.length) (hl : l.length ≤ 400) : lim C0 57 fn [.c (code Try.f57)] ⟨number [.ref 0 0 l.length, (.pv false (.sc (.int .i64 ((i : Nat))))), (.pv false (.sc (.int .i64 ((i : Int) + 1))))] 0, [(0, .row .io 42 2 (eds l))]⟩ = some (.ref 0 0 (l.length - 1), [(0, .row .io 42 2 (eds (delE l i)))]) := by
  have hp5 := plan57_5
  simp [opsOf, code, Try.f57] at hp5
  have c1 : (0 : Int) ≤ (i : Int) + 1 := by omega
  have c2 : (i : Int) + 1 ≤ (l.length : Int) := by omega
  have c3 : ((i : Int) + 1).toNat = i + 1 := by omega
  have c4 : ¬ (i : Int) = (i : Int) + 1 := by omega
  have c5 : (i : Int) ≤ (i : Int) + 1 := by omega
  have c6 : (i : Int) ≤ (l.length : Int) := by omega
  have c8 : i + 1 + (l.length - (i + 1)) ≤ l.length := by omega
  have c9 : List.take (l.length - (i + 1)) (List.drop (i + 1) l) = List.drop (i + 1) l := List.take_of_length_le (by simp)
  have c10 : i + (l.length - (i + 1)) = l.length - 1 := by omega
  have c11 : l.length - 1 ≤ l.length := by omega
  have c12 : (∀ (r : List PV), r ∈ rws edP (List.drop (i + 1) l) → r.length = 2) = True := eq_true (edP_all _)
  have c13 : ¬ l.length ≤ l.length - 1 := by omega
  have c14 : l.length ≤ i + (l.length - (i + 1) + 1) := by omega
  have c15 : l.length - (l.length - 1) = 1 := by omega
  have c16 : min i l.length = i := by omega
  have c17 : l.length - 1 + 1 = l.length := by omega
  simp [code, Try.f57, hr, hp5, c1, c2, c3, c4, c5, c6, hi, c8, c9, c10, c11, c12, c13, c14, c15, c16, c17]
  have hA : List.take i l ++ List.drop (i + 1) l = l.eraseIdx i := (List.eraseIdx_eq_take_drop_succ ..).symm
  have hlen : (l.eraseIdx i).length = l.length - 1 := List.length_eraseIdx_of_lt hi
  rw [← List.append_assoc, hA, List.take_left' hlen, List.drop_eq_nil_of_le (by simp [hlen])]
  rfl
theorem p57 (l : List Ed) (i : Nat) (hi : i < l.length) (hl : l.length ≤ 400) : phi C0 (lim C0) 57 [.ref 0 0 l.length, (.pv false (.sc (.int .i64 ((i : Nat))))), (.pv false (.sc (.int .i64 ((i : Int) + 1))))] [(0, .row .io 42 2 (eds l))] = some (.ref 0 0 (l.length - 1), [(0, .row .io 42 2 (eds (delE l i)))]) := call0 Try.func57 (by kernel_rfl) (e57 Try.f57 Try.results57 l i hi hl)
end Go.Proofs.Ytopoaemlbnkhgaa
