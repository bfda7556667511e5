/- slices.Insert at entries, walked over the model. -/
import Derived.Test.YtgbfmdihmnpcdaaGreatDoorT0
import Derived.Test.YtgbfmdihmnpcdaaGreatDoorX0
import Derived.Lib.Walk
import Derived.WalkKit
import Derived.Lib.Overlaps
import Derived.Lib.AppendZerosOnto
import Derived.Laws.IdiomCopy
import Derived.Laws.NewBlocks
import Derived.Shelf.RegionOpenPlain
namespace Go.Proofs.YtgbfmdihmnpcdaaGreatDoor
open Go Go.Pm Go.Proofs Go.RowKit Go.Lib
set_option linter.unusedVariables false
set_option linter.unusedSimpArgs false
theorem wpList_copy_is (w : World) {ops : Array Oper} {rest : List Oper} {o : Oper} {a : Act} {Q : Exit → Act → World → Prop} (hgd : o.guard = none) (d s : Operand) (t t' : TypeId)
    (ho : o.op = .call { callee := .builtin .copy, args := #[d, s], argTypes := #[t, t'] }) (v u : Value) (hd : a.eval d = v) (hs : a.eval s = u) {v' : Value} {w' : World}
    (hr : (Builtin.copy_ #[t, t'] o.type #[v, u]).run Tryz.prog w = .ok v' w') (h : wpList Tryz.prog ops Q rest (a.put o.dst v') w') : wpList Tryz.prog ops Q (o :: rest) a w :=
 wpList_plain hgd fun K hK => by
  unfold Oper.wp execOp
  simp only [ho, resolve, invoke, builtin, Sem.run_bind, Sem.run_pure, Result.andThen_ok, List.map_toArray, List.map_cons, List.map_nil, hd, hs, hr]
  exact hK _ _ h
theorem step_copy_is {ops : Array Oper} {o : Oper} {a : Act} {w : World} {K : Act → World → Prop} {Q : Exit → Act → World → Prop} {E : Prop}
    (hg : o.guard = none) (d x : Operand) (dT sT : TypeId) (hop : o.op = Op.call { callee := Callee.builtin Builtin.copy, args := #[d, x], argTypes := #[dT, sT] })
    (v u : Value) (hd : a.eval d = v) (hx : a.eval x = u) {v' : Value} {w' : World} (hr : (Builtin.copy_ #[dT, sT] o.type #[v, u]).run Tryz.prog w = .ok v' w') (hK : K (a.put o.dst v') w') :
    if Region.wanted o (yielded ops a.tmps) = true then Oper.wp Tryz.prog o a w K Q else E := by
 have hw : Region.wanted o (yielded ops a.tmps) = true := by simp [Region.wanted, hg]
 rw [if_pos hw]
 unfold Oper.wp
 simp [execOp, hop, resolve, invoke, builtin, hd, hx, hr, Result.andThen]
 exact hK
set_option maxHeartbeats 4000000 in
set_option maxRecDepth 100000 in
theorem ins_end (base : Option Addr) (n c : Nat) (vad : Addr) (vc : Nat) (w w' : World) (u : Value) (hrun : (Builtin.append_ #[46, 46] 46 #[.slice base n c, .slice (some vad) 1 vc]).run Tryz.prog w = .ok u w') :
    Calls Tryz.prog 158 #[.slice base n c, .int .i64 n, .slice (some vad) 1 vc] w fun e w2 => e = .returned u ∧ w2 = w' := by
 have mixed := mixed
 obtain ⟨vb, vo, vs⟩ := vad
 go_enter Tryz.func158, Tryz.ntmps158
 cases base with
 | none =>
  go_wp2_with (at_builtin; refine Lib.wpList_append_run _ rfl _ _ _ _ rfl _ _ rfl rfl _ _ hrun ?_)
  all_goals (go_ret; exact ⟨rfl, rfl⟩)
 | some a =>
  obtain ⟨ab, ao, asp⟩ := a
  go_wp2_with (at_builtin; refine Lib.wpList_append_run _ rfl _ _ _ _ rfl _ _ rfl rfl _ _ hrun ?_)
  all_goals (go_ret; exact ⟨rfl, rfl⟩)
set_option maxHeartbeats 4000000 in
set_option maxRecDepth 100000 in
theorem ins_shift (b off n c i vb vo vc : Nat) (w W1 : World) (r1 r2 : Value) (V : List Value) (hi : i < n) (hroom : n + 1 ≤ c) (hbig : n + 1 ≤ 9223372036854775807) (hvb : vb ≠ b)
    (tA tB : TypeId) (kA kB : Nat) (hsa : w.shape? vb = some (tA, kA)) (hsb : w.shape? b = some (tB, kB)) (hkB : kB ≠ 0) (hfa : w.frozen? ⟨vb, vo, none⟩ = false) (hfe : w.frozen? ⟨vb, kA, none⟩ = false)
    (hcp1 : ∀ ty dc sc, (Builtin.copy_ #[46, 46] ty #[.slice (some ⟨b, off + (i + 1) * 9, none⟩) (n - i) dc, .slice (some ⟨b, off + i * 9, none⟩) (n + 1 - i) sc]).run Tryz.prog w.drew = .ok r1 W1)
    (hcp2 : ∀ W : World, W.heap = W1.heap → ∀ ty dc, (Builtin.copy_ #[46, 46] ty #[.slice (some ⟨b, off + i * 9, none⟩) (n + 1 - i) dc, .slice (some ⟨vb, vo, none⟩) 1 vc]).run Tryz.prog W = .ok r2 (W.setCells b (off + i * 9) V)) :
    Calls Tryz.prog 158 #[.slice (some ⟨b, off, none⟩) n c, .int .i64 i, .slice (some ⟨vb, vo, none⟩) 1 vc] w fun e w2 => e = .returned (.slice (some ⟨b, off, none⟩) (n + 1) c) ∧ w2 = W1.setCells b (off + i * 9) V := by
 have mixed := mixed
 have hz2 : ¬ ((i : Int) = (n : Int)) := by omega
 have hov : ∀ lb cb, (callFunc 179 #[.slice (some ⟨vb, vo, none⟩) 1 vc, .slice (some ⟨b, off + (i + 1) * 9, none⟩) lb cb]).run Tryz.prog w = .ok (.value (.bool false)) w := fun lb cb => by
  rw [run_callFunc_extern Tryz.func179 (by kernel_rfl) (by kernel_rfl) (by kernel_rfl) (e := Extern.SlicesOverlaps.overlaps #[46, 46] #[4]) (by kernel_rfl),
   Lib.run_overlaps_apart w 46 4 162 Tryz.underlying46 9 (fun w => (tabOk 162 _ (show C0.T 162 = some _ from tyT162)).size w) ⟨vb, vo, none⟩ ⟨b, off + (i + 1) * 9, none⟩ 1 vc lb cb hvb tA tB kA kB hsa hsb hkB hfa hfe]
  rfl
 have hw1 : IntKind.i64.wrap ((i : Int) + 1) = (i : Int) + 1 := by rw [IntKind.wrap_i64]; omega
 have hw2 : IntKind.i64.wrap ((n : Int) + 1) = (n : Int) + 1 := by rw [IntKind.wrap_i64]; omega
 have hb1 : (0 : Int) ≤ (i : Int) + 1 := by omega
 have hin : i ≤ n := by omega
 have htn : ((i : Int) + 1).toNat = i + 1 := by omega
 have htn2 : ((n : Int) + 1).toNat = n + 1 := by omega
 have hb2 : ¬ (c = i + 1) := by omega
 have hb3 : (i : Int) ≤ (n : Int) + 1 := by omega
 have hb4 : ¬ (c = i) := by omega
 have hb5 : ¬ ((c : Int) < (n : Int) + 1) := by omega
 have hb6 : (n : Int) + 1 ≤ (c : Int) := by omega
 go_enter Tryz.func158, Tryz.ntmps158
 go_wp2_with (simp only [hov])
 go_region_law_o (refine step_copy_is rfl _ _ 46 46 rfl _ _ (by simp [Act.eval, Act.put]) (by simp [Act.eval, Act.put]) (hcp1 _ _ _) ?_)
 go_wp2_with (at_builtin; refine wpList_copy_is _ rfl _ _ 46 46 rfl _ _ rfl rfl (hcp2 _ rfl _ _) ?_)
 go_ret
 exact ⟨rfl, rfl⟩
set_option maxHeartbeats 4000000 in
set_option maxRecDepth 100000 in
theorem ins_grow (b off n c i vb vo vc nb G : Nat) (w W1 : World) (r1 r2 : Value) (V D : List Value) (hi : i < n) (hnc : n ≤ c) (hroom : c < n + 1) (hbig : n + 1 ≤ 9223372036854775807) (hG : n + 1 ≤ G) (hG63 : G ≤ 9223372036854775807)
    (hap : ∀ ty, (Builtin.append_ #[46, 3] ty #[.slice (some ⟨b, off, none⟩) i c, .int .i64 ((n : Int) + 1 - i)]).run Tryz.prog w = .ok (.slice (some ⟨nb, 0, none⟩) (n + 1) G) W1)
    (hcp1 : ∀ W : World, W.heap = W1.heap → ∀ ty dc, (Builtin.copy_ #[46, 46] ty #[.slice (some ⟨nb, i * 9, none⟩) (n + 1 - i) dc, .slice (some ⟨vb, vo, none⟩) 1 vc]).run Tryz.prog W = .ok r1 (W.setCells nb (i * 9) V))
    (hcp2 : ∀ W : World, W.heap = (W1.setCells nb (i * 9) V).heap → ∀ ty dc sc, (Builtin.copy_ #[46, 46] ty #[.slice (some ⟨nb, (i + 1) * 9, none⟩) (n - i) dc, .slice (some ⟨b, off + i * 9, none⟩) (n - i) sc]).run Tryz.prog W = .ok r2 (W.setCells nb ((i + 1) * 9) D)) :
    Calls Tryz.prog 158 #[.slice (some ⟨b, off, none⟩) n c, .int .i64 i, .slice (some ⟨vb, vo, none⟩) 1 vc] w fun e w2 => e = .returned (.slice (some ⟨nb, 0, none⟩) (n + 1) G) ∧ w2 = ((W1.setCells nb (i * 9) V).drew).setCells nb ((i + 1) * 9) D := by
 have mixed := mixed
 have hz2 : ¬ ((i : Int) = (n : Int)) := by omega
 have hz3 : (c : Int) < (n : Int) + 1 := by omega
 have hw1 : IntKind.i64.wrap ((i : Int) + 1) = (i : Int) + 1 := by rw [IntKind.wrap_i64]; omega
 have hw2 : IntKind.i64.wrap ((n : Int) + 1) = (n : Int) + 1 := by rw [IntKind.wrap_i64]; omega
 have hw3 : IntKind.i64.wrap ((n : Int) + 1 - i) = (n : Int) + 1 - i := by rw [IntKind.wrap_i64]; omega
 have hb1 : (0 : Int) ≤ (i : Int) + 1 := by omega
 have hin : i ≤ n := by omega
 have htn : ((i : Int) + 1).toNat = i + 1 := by omega
 have htn2 : ((n : Int) + 1).toNat = n + 1 := by omega
 have hb3 : (i : Int) ≤ (n : Int) + 1 := by omega
 have hb4 : ¬ (c = i) := by omega
 have hGi : ¬ (G = i) := by omega
 have hGim : ¬ (G = i + 1) := by omega
 go_enter Tryz.func158, Tryz.ntmps158
 go_wp2_with (first
  | (at_builtin; refine Lib.wpList_append_run _ rfl _ _ _ _ rfl _ _ rfl rfl _ _ (hap _) ?_)
  | (at_builtin; refine wpList_copy_is _ rfl _ _ 46 46 rfl _ _ rfl rfl (hcp1 _ rfl _ _) ?_))
 go_region_law_o (refine step_copy_is rfl _ _ 46 46 rfl (.slice (some ⟨nb, (i + 1) * 9, none⟩) (n - i) (G - (i + 1))) (.slice (some ⟨b, off + i * 9, none⟩) (n - i) (c - i)) (by simp [Act.eval, Act.put]) (by simp [Act.eval, Act.put]) (hcp2 ((W1.setCells nb (i * 9) V).drew) rfl 3 (G - (i + 1)) (c - i)) ?_)
 go_wp2
 go_ret
 exact ⟨rfl, rfl⟩
def lst (cs : Array Value) (o n : Nat) : List Value := (List.range n).map fun j => cs.getD (o + j) undef
@[simp] theorem lst_len (cs : Array Value) (o n : Nat) : (lst cs o n).length = n := by simp [lst]
theorem lst_getD (cs : Array Value) (o n j : Nat) (h : j < n) : (lst cs o n).getD j undef = cs.getD (o + j) undef := by
 simp [lst, List.getD_eq_getElem?_getD, h]
theorem wide_plain {w : World} {b : Nat} {e : TypeId} {cells : Array Value} (h : Cells w b e cells) (hw : wideT e = true) (off : Nat) : w.frozen? ⟨b, off, none⟩ = false := by
 obtain ⟨⟨lo, hi⟩, h1, ⟨_, h3⟩, _⟩ := h
 have h4 := h3 hw
 simp only at h4
 simp only [World.frozen?, h1]
 simp
 omega
set_option maxRecDepth 100000 in
theorem size_entry (W : World) : (sizeOf 162).run Tryz.prog W = .ok 9 W := by
 have hz := (tabOk 162 _ (show C0.T 162 = some _ from tyT162)).size W
 rw [show C0.P = Tryz.prog from rfl] at hz
 exact hz
set_option maxHeartbeats 1000000 in
set_option maxRecDepth 100000 in
theorem copy9 (W : World) {dB dO dLen dCap sB sO sLen sCap q : Nat} {e1 e2 : TypeId} {cd cs : Array Value} (hd : Cells W dB e1 cd) (hs : Cells W sB e2 cs) (hq : Nat.min sLen dLen = q) (h1 : dO + q * 9 ≤ cd.size) (h2 : sO + q * 9 ≤ cs.size)
    (hone : ∀ j, j < q * 9 → (cs.getD (sO + j) undef).oneCell' = true) (ty : TypeId) :
    (Builtin.copy_ #[46, 46] ty #[.slice (some ⟨dB, dO, none⟩) dLen dCap, .slice (some ⟨sB, sO, none⟩) sLen sCap]).run Tryz.prog W = .ok (goInt q) (W.setCells dB dO (lst cs sO (q * 9))) := by
 have hl := run_loadCells_list (P := Tryz.prog) W ⟨sB, sO, none⟩ (lst cs sO (q * 9)) (fun j v hj => by
  have hjl : j < q * 9 := by have := (List.getElem?_eq_some_iff.1 hj).1; simpa using this
  rw [Addr.add_lit, hs.cell]
  have : (lst cs sO (q * 9)).getD j undef = v := by rw [List.getD_eq_getElem?_getD, hj]; rfl
  rw [lst_getD _ _ _ _ hjl] at this
  rw [← this]
  simp [Array.getD_eq_getD_getElem?, show sO + j < cs.size by omega])
 have hst := run_storeCells_cells (P := Tryz.prog) dB dO (lst cs sO (q * 9)) 0 W (fun j hj => by rw [lst_len] at hj; rw [Nat.add_zero]; exact hd.isSome (by omega)) (fun j hj => by rw [lst_len] at hj; rw [Nat.add_zero]; exact hd.frz (by omega)) (fun v hv => by
  obtain ⟨j, hj, rfl⟩ := List.mem_map.1 hv
  exact hone j (List.mem_range.1 hj))
 rw [lst_len] at hl
 simp only [Nat.add_zero] at hst
 have hz := size_entry W
 simp [Builtin.copy_, run_underlying Tryz.underlying46, Builtin.lenOf, Builtin.firstCells, hz, hq, hl, hst]
theorem three_args {vs : Array Value} (h : vs.size = 3) : ∃ v0 v1 v2, vs = #[v0, v1, v2] := by
 obtain ⟨l⟩ := vs
 match l, h with
 | [a, b, c], _ => exact ⟨a, b, c, rfl⟩
end Go.Proofs.YtgbfmdihmnpcdaaGreatDoor
