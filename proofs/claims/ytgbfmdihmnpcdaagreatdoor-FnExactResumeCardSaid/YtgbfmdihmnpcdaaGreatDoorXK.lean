/- slices.Insert at entries, as the pure machine sees it. -/
import Derived.Test.YtgbfmdihmnpcdaaGreatDoorXI
namespace Go.Proofs.YtgbfmdihmnpcdaaGreatDoor
open Go Go.Pm Go.Proofs Go.RowKit Go.Lib
set_option linter.unusedVariables false
set_option linter.unusedSimpArgs false
abbrev iE : Nat := 162
abbrev insH (rows : List (List PV)) (x : List PV) : Hp := [(0, .row .io iE 9 rows), (1, .row .io iE 9 [x])]
abbrev insO (i : Nat) (rows : List (List PV)) (x : List PV) : Hp := [(0, .dead), (1, .row .io iE 9 [x]), (16, .row .io iE 9 (rows.take i ++ x :: rows.drop i))]
theorem cells_one {w : World} {U : Nat → Prop} {rows : List (List PV)} {cells : Array Value} {off : Nat} (hr : ∀ r ∈ rows, r.length = 9)
    (h : ∀ (i : Nat) (r : List PV) (j : Nat) (p : PV), rows[i]? = some r → r[j]? = some p → Rep w U U (cells.getD (off + (i * 9 + j)) undef) p) (q : Nat) (hq : q < rows.length * 9) : (cells.getD (off + q) undef).oneCell' = true := by
 have h1 : q / 9 < rows.length := Nat.div_lt_of_lt_mul (by omega)
 have h2 := List.getElem?_eq_getElem h1
 have h3 : rows[q / 9].length = 9 := hr _ (List.getElem_mem h1)
 have h4 : q % 9 < rows[q / 9].length := by omega
 have := h _ _ _ _ h2 (List.getElem?_eq_getElem h4)
 rw [show q / 9 * 9 + q % 9 = q by omega] at this
 exact this.oneCell
theorem ins_at {α : Type} {l : List α} {x r : α} {i t : Nat} (hi : i ≤ l.length) (h : (l.take i ++ x :: l.drop i)[t]? = some r) : (t < i ∧ l[t]? = some r) ∨ (t = i ∧ r = x) ∨ (i < t ∧ l[t - 1]? = some r) := by
 by_cases h1 : t < i
 · rw [List.getElem?_append_left (by simp; omega), List.getElem?_take, if_pos h1] at h
   exact .inl ⟨h1, h⟩
 · rw [List.getElem?_append_right (by simp; omega)] at h
   have e : (l.take i).length = i := by simp; omega
   rw [e] at h
   by_cases h2 : t = i
   · subst h2
     simp at h
     exact .inr (.inl ⟨rfl, h.symm⟩)
   · rw [show t - i = (t - i - 1) + 1 by omega, List.getElem?_cons_succ, List.getElem?_drop] at h
     rw [show i + (t - i - 1) = t - 1 by omega] at h
     exact .inr (.inr ⟨by omega, h⟩)
theorem ins_mem {α : Type} {l : List α} {x r : α} {i : Nat} (h : r ∈ l.take i ++ x :: l.drop i) : r ∈ l ∨ r = x := by
 rcases List.mem_append.1 h with h | h
 · exact .inl (List.mem_of_mem_take h)
 · rcases List.mem_cons.1 h with h | h
   · exact .inr h
   · exact .inl (List.mem_of_mem_drop h)
theorem load9 {W : World} {b o n : Nat} {e : TypeId} {cs : Array Value} (hs : Cells W b e cs) (h2 : o + n ≤ cs.size) : (loadCells ⟨b, o, none⟩ n).run Tryz.prog W = .ok (lst cs o n).toArray W := by
 have hl := run_loadCells_list (P := Tryz.prog) W ⟨b, o, none⟩ (lst cs o n) (fun j v hj => by
  have hjl : j < n := by have := (List.getElem?_eq_some_iff.1 hj).1; simpa using this
  rw [Addr.add_lit, hs.cell]
  have : (lst cs o n).getD j undef = v := by rw [List.getD_eq_getElem?_getD, hj]; rfl
  rw [lst_getD _ _ _ _ hjl] at this
  rw [← this]
  simp [Array.getD_eq_getD_getElem?, show o + j < cs.size by omega])
 rwa [lst_len] at hl
set_option maxHeartbeats 4000000 in
set_option maxRecDepth 100000 in
theorem ins_spec (b : Bool) (i : Nat) (rows : List (List PV)) (x : List PV) (hi : i ≤ rows.length) (hl : rows.length ≤ 1048576) (hx : x.length = 9) :
    SpecF C0 158 [.ref 0 0 rows.length, .pv b (.sc (.int .i64 i)), .ref 1 0 1] (insH rows x) (.ref 16 0 (rows.length + 1)) (insO i rows x) := by
 refine ⟨⟨Tryz.f158, Tryz.func158, by kernel_rfl, by kernel_rfl⟩, rfl, (fun q ob h => by
  simp only [insO, Pm.look] at h
  repeat' (split at h)
  all_goals (cases h <;> rfl)), fun w own0 S m vs M hG hsz hargs => ?_⟩
 have hv0 := hargs 0 _ rfl
 have hv1 := hargs 1 _ rfl
 have hv2 := hargs 2 _ rfl
 obtain ⟨v0, v1, v2, rfl⟩ := three_args hsz
 rw [show (#[v0, v1, v2] : Array Value).getD 0 undef = v0 from rfl] at hv0
 rw [show (#[v0, v1, v2] : Array Value).getD 1 undef = v1 from rfl] at hv1
 rw [show (#[v0, v1, v2] : Array Value).getD 2 undef = v2 from rfl] at hv2
 obtain ⟨rfl, _⟩ := hv1.scv
 clear hv1 hargs hsz
 have hl0 : Pm.look (insH rows x) 0 = some (.row .io iE 9 rows) := rfl
 have hl1 : Pm.look (insH rows x) 1 = some (.row .io iE 9 [x]) := rfl
 have hE := tabOk iE _ (show C0.T iE = some _ from tyT162)
 have hT := tabOk 46 _ (show C0.T 46 = some _ from tyT46)
 rw [show C0.P = Tryz.prog from rfl] at hE hT
 generalize hvv : v2 = vv at hv2
 cases hv2 with
 | @ref _ _ _ c2 k2 A2 A2' hm2 hoc2 hA2 =>
 have hob2 := M.obs 1 _ hl1
 rw [hm2] at hob2
 cases hob2 with
 | row p1 p2 p3 p4 p5 =>
 have p1 : 1 ≤ c2 := p1
 cases A2 with
 | none => have := p3 rfl; omega
 | some ad2 =>
 obtain ⟨hs2, _, cells2, d1, d2, d3⟩ := p5 ad2 rfl
 have hv2 : RepT w m (RR (insH rows x) w m) (UU w S (insH rows x) w m) (.slice A2' 1 (c2 - 0)) (.ref 1 0 1) := .ref hm2 hoc2 hA2
 obtain ⟨vb, vo, sp⟩ := ad2
 simp only at hs2
 subst hs2
 have hA1 : A2' = some ⟨vb, vo, none⟩ := by
  rcases hA2 with h | h
  · simpa [Addr.add] using h
  · omega
 subst hA1
 subst hvv
 dsimp only at d1 d2 d3
 by_cases hin : i = rows.length
 · subst hin
   obtain ⟨u, w', m', hrun, M', g, hr⟩ := append_row_ok (P := Tryz.prog) (id := 16) (hp' := insO rows.length rows x) M hT rfl Tryz.underlying46 (.inl ⟨_, rfl⟩) hE 46 (x := .slice (some ⟨vb, vo, none⟩) 1 (c2 - 0)) (news := [x]) (old := rows) hl0 (by decide) hv0 (by simp [sub])
    (by decide) (by simp [Pm.roomBytes]; omega) (by simp; omega) (by simp [add, insO, Pm.put, Pm.look]) (fun w1 on1 hb1 => by
     have M1 := M.world on1 hb1
     have h1 : RepT w1 m (RR (insH rows x) w1 m) (UU w S (insH rows x) w1 m) (.slice (some ⟨vb, vo, none⟩) 1 (c2 - 0)) (.ref 1 0 1) := .ref hm2 hoc2 hA2
     have h2 := row_rep M1 hl1 h1 (fun _ => True) (fun _ _ _ _ => trivial) (by simp)
     exact slice_src (P := Tryz.prog) h2 p4 (by decide))
   cases hv0 with
   | @ref _ _ _ c k A A' hm hoc hA =>
   refine (ins_end A' rows.length (c - 0) ⟨vb, vo, none⟩ (c2 - 0) w w' u hrun).mono fun e w2 ⟨he, hw⟩ => ?_
   subst he
   subst hw
   exact ⟨_, m', rfl, M', hr, fun i hi c hc _ => g.ext i c hc⟩
 · have hlt : i < rows.length := by omega
   cases hv0 with
   | @ref _ _ _ c k A A' hm hoc hA =>
   have hob := M.obs 0 _ hl0
   rw [hm] at hob
   cases hob with
   | row g1 g2 g3 g4 g5 =>
   cases A with
   | none => have := g3 rfl; omega
   | some ad =>
   obtain ⟨hs, _, cells, c1, c2', c3⟩ := g5 ad rfl
   obtain ⟨bl, off, sp⟩ := ad
   simp only at hs
   subst hs
   have hA1 : A' = some ⟨bl, off, none⟩ := by
    rcases hA with h | h
    · simpa [Addr.add] using h
    · omega
   subst hA1
   dsimp only at c1 c2' c3
   have hblk : Blk (m 0) (.row .io iE 9 rows) bl := by rw [hm]; rfl
   have hne : vb ≠ bl := fun e => by
    have := M.sep 0 1 _ _ bl hl0 hl1 hblk (by rw [hm2, e]; rfl)
    cases this
   have hone := cells_one (off := off) g4 c3
   have hone2 := cells_one (off := vo) p4 d3
   have hlen4 : ∀ r ∈ rows.take i ++ x :: rows.drop i, r.length = 9 := fun r hr => by
    rcases ins_mem hr with h | h
    · exact g4 r h
    · rw [h]; exact hx
   have hlen : (rows.take i ++ x :: rows.drop i).length = rows.length + 1 := by simp; omega
   have hcs : off + rows.length * 9 ≤ cells.size := by
    have : rows.length * 9 ≤ c * 9 := Nat.mul_le_mul_right _ g1
    omega
   have hv9 : vo + 1 * 9 ≤ cells2.size := by
    have : 1 * 9 ≤ c2 * 9 := Nat.mul_le_mul_right _ p1
    omega
   have honeD : ∀ j, j < (rows.length - i) * 9 → (cells.getD (off + i * 9 + j) undef).oneCell' = true := fun j hj => by
    have := hone (i * 9 + j) (by omega)
    rwa [show off + (i * 9 + j) = off + i * 9 + j by omega] at this
   have honeV : ∀ j, j < 1 * 9 → (cells2.getD (vo + j) undef).oneCell' = true := fun j hj => hone2 j (by simpa using hj)
   have hwd : wideT iE = true := by decide
   by_cases hroom : rows.length + 1 ≤ c
   · have hfit : off + (rows.length + 1) * 9 ≤ cells.size := by
       have : (rows.length + 1) * 9 ≤ c * 9 := Nat.mul_le_mul_right _ hroom
       omega
     have hdr : On w w.drew := ⟨rfl, rfl, rfl, Nat.le_refl _, fun _ => Nat.le_succ _⟩
     have c1d : Cells w.drew bl iE cells := c1
     obtain ⟨D, hD⟩ : ∃ D, D = lst cells (off + i * 9) ((rows.length - i) * 9) := ⟨_, rfl⟩
     obtain ⟨V, hV⟩ : ∃ V, V = lst cells2 vo (1 * 9) := ⟨_, rfl⟩
     have hDl : D.length = (rows.length - i) * 9 := by rw [hD, lst_len]
     have hVl : V.length = 9 := by rw [hV, lst_len]
     have k1 : Cells (w.drew.setCells bl (off + (i + 1) * 9) D) bl iE (over cells (off + (i + 1) * 9) D) := Cells.setCells _ _ c1d
     have hcall := ins_shift bl off rows.length c i vb vo (c2 - 0) w (w.drew.setCells bl (off + (i + 1) * 9) D) (goInt (rows.length - i : Nat)) (goInt (1 : Nat)) V hlt hroom (by omega) hne iE iE cells2.size cells.size d1.shape c1.shape (by omega) (wide_plain d1 hwd _) (wide_plain d1 hwd _)
      (fun ty dc sc => by
       rw [hD]
       exact copy9 _ c1d c1d (by simp only [Nat.min_def]; split <;> omega) (by omega) (by omega) honeD ty)
      (fun W hW ty dc => by
       rw [hV]
       have k2 : Cells W bl iE (over cells (off + (i + 1) * 9) D) := k1.of_block (by rw [hW])
       have k3 : Cells W vb iE cells2 := d1.of_block (by rw [hW, setCells_heap bl _ _ _ vb hne]; rfl)
       exact copy9 (q := 1) _ k2 k3 (by simp only [Nat.min_def]; split <;> omega) (by rw [over_size]; omega) hv9 honeV ty)
     refine hcall.mono fun e w2 ⟨he, hw⟩ => ?_
     subst he
     have on : On w w2 := by rw [hw]; exact (hdr.trans (setCells_on _ _ _ _)).trans (setCells_on _ _ _ _)
     have hheap : ∀ q, q ≠ bl → w2.heap[q]? = w.heap[q]? := fun q hq => by rw [hw, setCells_heap bl _ _ _ q hq, setCells_heap bl _ _ _ q hq]; rfl
     have k4 : Cells w2 bl iE (over (over cells (off + (i + 1) * 9) D) (off + i * 9) V) := by rw [hw]; exact Cells.setCells _ _ k1
     obtain ⟨M', g⟩ := M.move (id := 16) (cm := .row (some ⟨bl, off, none⟩) c 9) (ob' := .row .io iE 9 (rows.take i ++ x :: rows.drop i)) on hl0 (by decide) rfl (fun q hq => by rw [hm]; exact hq)
      (fun q hq => hheap q fun e => hq (by rw [e]; exact hblk)) (fun q h => by cases h) (fun g => by
       refine .row (by rw [hlen]; exact hroom) (by decide) (fun h => by cases h) hlen4 (fun ad' hA' => ?_)
       cases hA'
       refine ⟨rfl, (fun h => by cases h), _, k4, ?_, fun t r j p ht hj => ?_⟩
       · rw [over_size, over_size]; exact c2'
       · dsimp only
         have hrl : r.length = 9 := hlen4 r (List.mem_of_getElem? ht)
         have hjl : j < 9 := by rw [← hrl]; exact (List.getElem?_eq_some_iff.1 hj).1
         have htl : t < rows.length + 1 := by rw [← hlen]; exact (List.getElem?_eq_some_iff.1 ht).1
         rw [over_get _ _ _ (by rw [over_size, hVl]; omega), over_get _ _ _ (by rw [hDl]; omega), hVl, hDl]
         rcases ins_at hi ht with ⟨h1, h2⟩ | ⟨h1, h2⟩ | ⟨h1, h2⟩
         · rw [if_neg (by omega), if_neg (by omega)]
           exact g.rep (c3 t r j p h2 hj)
         · subst h1
           subst h2
           rw [if_pos (by omega), hV, lst_getD _ _ _ _ (by omega), show vo + (off + (t * 9 + j) - (off + t * 9)) = vo + (0 * 9 + j) by omega]
           exact g.rep (d3 0 r j p rfl hj)
         · rw [if_neg (by omega), if_pos (by omega), hD, lst_getD _ _ _ _ (by omega), show off + i * 9 + (off + (t * 9 + j) - (off + (i + 1) * 9)) = off + ((t - 1) * 9 + j) by omega]
           exact g.rep (c3 (t - 1) r j p h2 hj))
     refine ⟨_, _, rfl, M', ?_, fun i hi c hc _ => g.ext i c hc⟩
     have := RepT.ref (w := w2) (R := RR (insO i rows x) w2 (upd m 16 (.row (some ⟨bl, off, none⟩) c 9))) (U := UU w S (insO i rows x) w2 (upd m 16 (.row (some ⟨bl, off, none⟩) c 9)))
      (m := upd m 16 (.row (some ⟨bl, off, none⟩) c 9)) (o := 16) (off := 0) (len := rows.length + 1) (c := c) (k := 9) (A := some ⟨bl, off, none⟩) (A' := some ⟨bl, off, none⟩) (upd_same m 16 _) (by omega) (.inl (by simp [Addr.add]))
     simpa using this
   · have hdr : On w w.drew := ⟨rfl, rfl, rfl, Nat.le_refl _, fun _ => Nat.le_succ _⟩
     have c1d : Cells w.drew bl iE cells := c1
     obtain ⟨D, hD⟩ : ∃ D, D = lst cells (off + i * 9) ((rows.length - i) * 9) := ⟨_, rfl⟩
     obtain ⟨V, hV⟩ : ∃ V, V = lst cells2 vo (1 * 9) := ⟨_, rfl⟩
     have hDl : D.length = (rows.length - i) * 9 := by rw [hD, lst_len]
     have hVl : V.length = 9 := by rw [hV, lst_len]
     obtain ⟨ti, q1, q2, q3, z, q4, q5, _⟩ := hE.info
     have q2 : ti.size = 9 := q2
     have q3 : ti.bytes = 152 := q3
     have q5 : z.cells.size = 9 := q5
     have hik : i + (rows.length + 1 - i) = rows.length + 1 := by omega
     have hcast : ((rows.length + 1 - i : Nat) : Int) = (rows.length : Int) + 1 - i := by omega
     have hfits := growslice_fits (need := rows.length + 1) (old := c) (bytes := 152) (by omega) (by omega)
     have hap0 := fun ty => Lib.run_append_grow_zeros w 46 3 ty iE ti z .i64 .i64 Tryz.underlying46 Tryz.underlying3 q1 q4 (some ⟨bl, off, none⟩) i c (lst cells off (i * 9))
      (by have := load9 (n := i * 9) (o := off) c1d (by omega)
          simp [Builtin.firstCells, q2, this]) (rows.length + 1 - i) (by omega) (by omega) (by omega) (by rw [hik]; omega) (by rw [q3]; omega) (by rw [hik, q3]; exact hfits)
     have hG := grownCap_ge w (rows.length + 1) c iE
     have hG63 := grownCap_le_maxLen w (rows.length + 1) c iE (by unfold maxLen; omega)
     rw [hik, hcast] at hap0
     generalize grownCap w (rows.length + 1) c iE = G at hap0 hG hG63
     obtain ⟨cells0, hc0⟩ : ∃ cells0, cells0 = (lst cells off (i * 9)).toArray ++ Builtin.zeroCells z.cells (rows.length + 1 - i) ++ Builtin.zeroCells z.cells (G - (rows.length + 1)) := ⟨_, rfl⟩
     rw [← hc0] at hap0
     have hsz0 : cells0.size = G * 9 := by
      rw [hc0]
      simp only [Array.size_append, size_zeroCells, q5, List.size_toArray, lst_len]
      omega
     have hlow : ∀ q, q < i * 9 → cells0.getD q undef = cells.getD (off + q) undef := fun q hq => by
      rw [← lst_getD cells off (i * 9) q hq, hc0]
      simp [Array.getD_eq_getD_getElem?, Array.append_assoc, List.getD_eq_getElem?_getD, Array.getElem?_append_left, hq]
     have k0 : Cells (w.drew.alloc (.cells cells0 iE)) w.heap.size iE cells0 := Cells.alloc w.drew cells0 iE
     have hold : ∀ q, q < w.heap.size → (w.drew.alloc (.cells cells0 iE)).heap[q]? = w.heap[q]? := fun q hq => Pm.alloc_old w.drew _ q hq
     generalize hW1 : w.drew.alloc (.cells cells0 iE) = W1 at hap0 k0 hold
     have k1 : Cells (W1.setCells w.heap.size (i * 9) V) w.heap.size iE (over cells0 (i * 9) V) := Cells.setCells _ _ k0
     have hnb : ∀ q, q < w.heap.size → q ≠ w.heap.size := fun q hq => by omega
     have hcall := ins_grow bl off rows.length c i vb vo (c2 - 0) w.heap.size G w W1 (goInt (1 : Nat)) (goInt (rows.length - i : Nat)) V D hlt g1 (by omega) (by omega) hG (by unfold maxLen at hG63; omega) hap0
      (fun W hW ty dc => by
       rw [hV]
       have k2 : Cells W w.heap.size iE cells0 := k0.of_block (by rw [hW])
       have k3 : Cells W vb iE cells2 := d1.of_block (by rw [hW]; exact hold vb d1.lt)
       exact copy9 (q := 1) _ k2 k3 (by simp only [Nat.min_def]; split <;> omega) (by omega) hv9 honeV ty)
      (fun W hW ty dc sc => by
       rw [hD]
       have k2 : Cells W w.heap.size iE (over cells0 (i * 9) V) := k1.of_block (by rw [hW])
       have k3 : Cells W bl iE cells := c1.of_block (by rw [hW, setCells_heap _ _ _ _ bl (hnb bl c1.lt)]; exact hold bl c1.lt)
       exact copy9 _ k2 k3 (by simp only [Nat.min_def]; split <;> omega) (by rw [over_size]; omega) (by omega) honeD ty)
     refine hcall.mono fun e w2 ⟨he, hw⟩ => ?_
     subst he
     have on1 : On w W1 := by rw [← hW1]; exact hdr.trans (On.alloc _ _)
     have on : On w w2 := by
      rw [hw]
      have o2 := on1.trans (setCells_on w.heap.size V (i * 9) W1)
      have o3 : On w (W1.setCells w.heap.size (i * 9) V).drew := o2.trans ⟨rfl, rfl, rfl, Nat.le_refl _, fun _ => Nat.le_succ _⟩
      exact o3.trans (setCells_on _ _ _ _)
     have hheap : ∀ q, q < w.heap.size → w2.heap[q]? = w.heap[q]? := fun q hq => by
      rw [hw, setCells_heap _ _ _ _ q (hnb q hq)]
      show (W1.setCells w.heap.size (i * 9) V).heap[q]? = _
      rw [setCells_heap _ _ _ _ q (hnb q hq)]
      exact hold q hq
     have k1d : Cells (W1.setCells w.heap.size (i * 9) V).drew w.heap.size iE (over cells0 (i * 9) V) := k1
     have k4 : Cells w2 w.heap.size iE (over (over cells0 (i * 9) V) ((i + 1) * 9) D) := by rw [hw]; exact Cells.setCells _ _ k1d
     obtain ⟨M1, g1'⟩ := M.kill hl0
     obtain ⟨M', g⟩ := row_ok (w' := w2) (id := 16) (c := G) (st := .io) (rows := rows.take i ++ x :: rows.drop i) M1 (by decide) (by decide) rfl on hheap k4 (by decide) (by rw [hlen]; exact hG) (by rw [over_size, over_size]; omega) hlen4 (fun t r j p ht hj => by
      have hrl : r.length = 9 := hlen4 r (List.mem_of_getElem? ht)
      have hjl : j < 9 := by rw [← hrl]; exact (List.getElem?_eq_some_iff.1 hj).1
      have htl : t < rows.length + 1 := by rw [← hlen]; exact (List.getElem?_eq_some_iff.1 ht).1
      rw [over_get _ _ _ (by rw [over_size, hDl]; omega), over_get _ _ _ (by rw [hVl]; omega), hVl, hDl]
      rcases ins_at hi ht with ⟨h1, h2⟩ | ⟨h1, h2⟩ | ⟨h1, h2⟩
      · rw [if_neg (by omega), if_neg (by omega), hlow _ (by omega)]
        exact g1'.rep (c3 t r j p h2 hj)
      · subst h1
        subst h2
        rw [if_neg (by omega), if_pos (by omega), hV, lst_getD _ _ _ _ (by omega), show vo + (t * 9 + j - t * 9) = vo + (0 * 9 + j) by omega]
        exact g1'.rep (d3 0 r j p rfl hj)
      · rw [if_pos (by omega), hD, lst_getD _ _ _ _ (by omega), show off + i * 9 + (t * 9 + j - (i + 1) * 9) = off + ((t - 1) * 9 + j) by omega]
        exact g1'.rep (c3 (t - 1) r j p h2 hj))
     refine ⟨_, _, rfl, M', ?_, fun i hi c hc hne => (g1'.trans g).ext i c hc⟩
     have := RepT.ref (w := w2) (R := RR (insO i rows x) w2 (upd m 16 (.row (some ⟨w.heap.size, 0, none⟩) G 9))) (U := UU w S (insO i rows x) w2 (upd m 16 (.row (some ⟨w.heap.size, 0, none⟩) G 9)))
      (m := upd m 16 (.row (some ⟨w.heap.size, 0, none⟩) G 9)) (o := 16) (off := 0) (len := rows.length + 1) (c := G) (k := 9) (A := some ⟨w.heap.size, 0, none⟩) (A' := some ⟨w.heap.size, 0, none⟩) (upd_same m 16 _) (by omega) (.inl (by simp [Addr.add]))
     simpa using this
set_option maxHeartbeats 4000000 in
set_option maxRecDepth 100000 in
theorem ins_nil (b : Bool) (x : List PV) (hx : x.length = 9) :
    SpecF C0 158 [.nl, .pv b (.sc (.int .i64 0)), .ref 0 0 1] [(0, .row .io iE 9 [x])] (.ref 16 0 1) [(0, .row .io iE 9 [x]), (16, .row .own iE 9 [x])] := by
 refine ⟨⟨Tryz.f158, Tryz.func158, by kernel_rfl, by kernel_rfl⟩, rfl, (fun q ob h => by
  simp only [Pm.look] at h
  repeat' (split at h)
  all_goals (cases h <;> rfl)), fun w own0 S m vs M hG hsz hargs => ?_⟩
 have hv0 := hargs 0 _ rfl
 have hv1 := hargs 1 _ rfl
 have hv2 := hargs 2 _ rfl
 obtain ⟨v0, v1, v2, rfl⟩ := three_args hsz
 rw [show (#[v0, v1, v2] : Array Value).getD 0 undef = v0 from rfl] at hv0
 rw [show (#[v0, v1, v2] : Array Value).getD 1 undef = v1 from rfl] at hv1
 rw [show (#[v0, v1, v2] : Array Value).getD 2 undef = v2 from rfl] at hv2
 obtain ⟨rfl, _⟩ := hv1.scv
 clear hv1 hargs hsz
 cases hv0
 have hl1 : Pm.look [(0, OB.row .io iE 9 [x])] 0 = some (.row .io iE 9 [x]) := rfl
 have hE := tabOk iE _ (show C0.T iE = some _ from tyT162)
 have hT := tabOk 46 _ (show C0.T 46 = some _ from tyT46)
 rw [show C0.P = Tryz.prog from rfl] at hE hT
 cases hv2 with
 | @ref _ _ _ c2 k2 A2 A2' hm2 hoc2 hA2 =>
 have hob2 := M.obs 0 _ hl1
 rw [hm2] at hob2
 cases hob2 with
 | row p1 p2 p3 p4 p5 =>
 have p1 : 1 ≤ c2 := p1
 cases A2 with
 | none => have := p3 rfl; omega
 | some ad2 =>
 obtain ⟨u, w', m', hrun, M', g, hr⟩ := append_nil_ok (P := Tryz.prog) (id := 16) (hp' := [(0, OB.row .io iE 9 [x]), (16, OB.row .own iE 9 [x])]) M hT rfl Tryz.underlying46 (.inl ⟨_, rfl⟩) hE 46 (x := .slice A2' 1 (c2 - 0)) (news := [x])
  (by decide) (by simp [Pm.roomBytes]) (by simp) (by simp [add, Pm.put, Pm.look]) (fun w1 on1 hb1 => by
   have M1 := M.world on1 hb1
   have h1 : RepT w1 m (RR [(0, OB.row .io iE 9 [x])] w1 m) (UU w S [(0, OB.row .io iE 9 [x])] w1 m) (.slice A2' 1 (c2 - 0)) (.ref 0 0 1) := .ref hm2 hoc2 hA2
   have h2 := row_rep M1 hl1 h1 (fun _ => True) (fun _ _ _ _ => trivial) (by simp)
   exact slice_src (P := Tryz.prog) h2 p4 (by decide))
 have hA1 : A2' = some (ad2.add (0 * 9)) := by
  rcases hA2 with h | h
  · exact h
  · omega
 subst hA1
 refine (ins_end none 0 0 (ad2.add (0 * 9)) (c2 - 0) w w' u hrun).mono fun e w2 ⟨he, hw⟩ => ?_
 subst he
 subst hw
 exact ⟨_, m', rfl, M', hr, fun i hi c hc _ => g.ext i c hc⟩
end Go.Proofs.YtgbfmdihmnpcdaaGreatDoor
