/- Closed calls by running the machine; calls that are known already are looked up. -/
import Derived.Test.YtmfnklfoocebhaaGreatDoorT0
namespace Go.Proofs.YtmfnklfoocebhaaGreatDoor.Ev
open Go Go.Pm Go.Proofs Go.Proofs.YtmfnklfoocebhaaGreatDoor
set_option linter.unusedVariables false
set_option linter.unusedSimpArgs false
/-- A call: function, arguments, memory; what it answers. -/
abbrev Row := FuncId × List TV × Hp × Res
def rowAt : List Row → FuncId → List TV → Hp → Option Res
  | [], _, _, _ => none
  | x :: l, f, ts, hp => bif Nat.beq f x.1 && (eqTs ts x.2.1 && eqHp hp x.2.2.1) then some x.2.2.2 else rowAt l f ts hp
def RowOk (x : Row) : Prop := phi C1 (lim C1) x.1 x.2.1 x.2.2.1 = some x.2.2.2
def RowsOk (l : List Row) : Prop := ∀ x ∈ l, RowOk x
theorem rnil : RowsOk [] := fun x h => by cases h
theorem rcons {x : Row} {l : List Row} (h : RowOk x) (hl : RowsOk l) : RowsOk (x :: l) := fun y hy => by
  rcases List.mem_cons.1 hy with rfl | hy
  · exact h
  · exact hl y hy
theorem rowAt_ok : ∀ {l : List Row} {f : FuncId} {ts : List TV} {hp : Hp} {r : Res}, RowsOk l → rowAt l f ts hp = some r → phi C1 (lim C1) f ts hp = some r
  | [], _, _, _, _, _, h => by cases h
  | x :: l, f, ts, hp, r, hl, h => by
    unfold rowAt at h
    cases hc : (Nat.beq f x.1 && (eqTs ts x.2.1 && eqHp hp x.2.2.1)) with
    | false => rw [hc] at h; exact rowAt_ok (fun y hy => hl y (List.mem_cons_of_mem _ hy)) h
    | true =>
      rw [hc] at h
      cases h
      simp only [Bool.and_eq_true] at hc
      rw [Nat.eq_of_beq_eq_true hc.1, eqTs_ok _ _ hc.2.1, eqHp_ok hc.2.2]
      exact hl x (List.mem_cons_self ..)
noncomputable def phiM (l : List Row) (R : FuncId → Func → List It → St → Option Res) (f : FuncId) (ts : List TV) (hp : Hp) : Option Res := match rowAt l f ts hp with
  | some r => some r
  | none => phi C1 R f ts hp
noncomputable def runM (l : List Row) : Nat → FuncId → Func → List It → St → Option Res
  | 0, _, _, _, _ => none
  | n + 1, f, fn, k, s => bodyK C1 (phiM l (runM l n)) (runM l n f fn) f fn k s
theorem runM_ok {l : List Row} (hl : RowsOk l) : ∀ (n : Nat) {f : FuncId} {fn : Func} {k : List It} {s : St} {r : Res}, runM l n f fn k s = some r → lim C1 f fn k s = some r
  | 0, _, _, _, _, _, h => by cases h
  | n + 1, f, fn, k, s, r, h => by
    rw [lim_eq]
    refine body_mono (fun g ts hp x hx => ?_) (fun k s r h => runM_ok hl n h) (bodyK_ok h)
    unfold phiM at hx
    split at hx
    · rename_i y hy
      cases hx
      exact rowAt_ok hl hy
    · exact phi_mono (fun f fn k s r h => runM_ok hl n h) _ _ _ _ hx
def isR (r : Option Res) (q : Res) : Bool := match r with | some x => eqRes x q | none => false
theorem row_ok {l : List Row} (hl : RowsOk l) (n : Nat) (x : Row) (h : isR (phi C1 (runM l n) x.1 x.2.1 x.2.2.1) x.2.2.2 = true) : RowOk x := by
  unfold isR at h
  split at h
  · rename_i y hy
    have := phi_mono (fun f fn k s r h => runM_ok hl n h) _ _ _ _ hy
    rw [eqRes_ok h] at this
    exact this
  · cases h
abbrev I (n : Int) : PV := .sc (.int .i64 n)
abbrev i (n : Int) : TV := .pv false (.sc (.int .i64 n))
abbrev B (l : List Int) : PV := .sl (l.map fun n => [.sc (.int .u8 n)])
abbrev E : PV := .sl []
end Go.Proofs.YtmfnklfoocebhaaGreatDoor.Ev
