/- slices.Insert at acts whose memory is a tree. -/
import Derived.Test.YtgbfmdihmnpcdaaGreatDoorOI1
namespace Go.Proofs.YtgbfmdihmnpcdaaGreatDoor.IT
open Go Go.Pm Go.Proofs.YtgbfmdihmnpcdaaGreatDoor Go.Proofs Go.RowKit Go.Lib
set_option linter.unusedVariables false
set_option linter.unusedSimpArgs false
abbrev iE : Nat := 69
abbrev insH (rows : List (List PV)) (x : List PV) : Hp := [(0, .tree .io rows), (1, .tree .io [x])]
abbrev insO (i : Nat) (rows : List (List PV)) (x : List PV) : Hp := [(0, .dead), (1, .dead), (16, .tree .io (rows.take i ++ x :: rows.drop i))]
theorem ins_at {α : Type} {l : List α} {x r : α} {i t : Nat} (hi : i ≤ l.length) (h : (l.take i ++ x :: l.drop i)[t]? = some r) : (t < i ∧ l[t]? = some r) ∨ (t = i ∧ r = x) ∨ (i < t ∧ l[t - 1]? = some r) := by
  by_cases h1 : t < i
  · rw [List.getElem?_append_left (by simp; omega), List.getElem?_take, if_pos h1] at h
    exact .inl ⟨h1, h⟩
  · rw [List.getElem?_append_right (by simp; omega)] at h
    have e : (l.take i).length = i := by simp; omega
    rw [e] at h
    by_cases h2 : t = i
    · subst h2
      simp at h
      exact .inr (.inl ⟨rfl, h.symm⟩)
    · rw [show t - i = (t - i - 1) + 1 by omega, List.getElem?_cons_succ, List.getElem?_drop] at h
      rw [show i + (t - i - 1) = t - 1 by omega] at h
      exact .inr (.inr ⟨by omega, h⟩)
theorem ins_mem {α : Type} {l : List α} {x r : α} {i : Nat} (h : r ∈ l.take i ++ x :: l.drop i) : r ∈ l ∨ r = x := by
  rcases List.mem_append.1 h with h | h
  · exact .inl (List.mem_of_mem_take h)
  · rcases List.mem_cons.1 h with h | h
    · exact .inr h
    · exact .inl (List.mem_of_mem_drop h)
theorem loadN {W : World} {b o n : Nat} {e : TypeId} {cs : Array Value} (hs : Cells W b e cs) (h2 : o + n ≤ cs.size) : (loadCells ⟨b, o, none⟩ n).run Tryz.prog W = .ok (lst cs o n).toArray W := by
  have hl := run_loadCells_list (P := Tryz.prog) W ⟨b, o, none⟩ (lst cs o n) (fun j v hj => by
    have hjl : j < n := by have := (List.getElem?_eq_some_iff.1 hj).1; simpa using this
    rw [Addr.add_lit, hs.cell]
    have : (lst cs o n).getD j undef = v := by rw [List.getD_eq_getElem?_getD, hj]; rfl
    rw [lst_getD _ _ _ _ hjl] at this
    rw [← this]
    simp [Array.getD_eq_getD_getElem?, show o + j < cs.size by omega])
  rwa [lst_len] at hl

theorem ins_get {α : Type} {l : List α} {x : α} {i t : Nat} (hi : i ≤ l.length) : (l.take i ++ x :: l.drop i)[t]? = if t < i then l[t]? else if t = i then some x else l[t - 1]? := by
  by_cases h1 : t < i
  · rw [if_pos h1, List.getElem?_append_left (by simp; omega), List.getElem?_take, if_pos h1]
  · rw [if_neg h1, List.getElem?_append_right (by simp; omega)]
    have e : (l.take i).length = i := by simp; omega
    rw [e]
    by_cases h2 : t = i
    · subst h2; simp
    · rw [if_neg h2, show t - i = (t - i - 1) + 1 by omega, List.getElem?_cons_succ, List.getElem?_drop, show i + (t - i - 1) = t - 1 by omega]
theorem tcells_one {rows : List (List PV)} {cells : Array Value} {off : Nat} {sub : Nat → Nat → GMap} (hr : ∀ r ∈ rows, r.length = 9)
    (h : ∀ (i : Nat) (r : List PV) (j : Nat) (p : PV), rows[i]? = some r → r[j]? = some p → TC (sub i j) (cells.getD (off + (i * 9 + j)) undef) p) (q : Nat) (hq : q < rows.length * 9) : (cells.getD (off + q) undef).oneCell' = true := by
  have h1 : q / 9 < rows.length := Nat.div_lt_of_lt_mul (by omega)
  have h2 := List.getElem?_eq_getElem h1
  have h3 : rows[q / 9].length = 9 := hr _ (List.getElem_mem h1)
  have h4 : q % 9 < rows[q / 9].length := by omega
  have := h _ _ _ _ h2 (List.getElem?_eq_getElem h4)
  rw [show q / 9 * 9 + q % 9 = q by omega] at this
  exact this.one
section
variable {w0 : World} {own0 S : Nat → Prop} {hp hp' : Hp} {w w' : World} {m : Mp}
/-- A root somewhere over what lies behind a list of cells. -/
theorem plant_at [Dd] (M : Mem w0 own0 S hp w m) (K : Killed hp hp') (on : On w w') {id : Nat} {st : RS} (hst : st ≠ .fz) (h16 : 16 ≤ id) (hid : Pm.look hp' id = none) {bl of_ e k c : Nat} {rows : List (List PV)} {cells : Array Value} {sub : Nat → Nat → GMap}
    (hcells : CellsT w' bl k e cells) (hfit : of_ + c * k ≤ cells.size) (h0 : 0 < k) (hc : rows.length ≤ c) (hlen : ∀ r ∈ rows, r.length = k)
    (hrows : ∀ (i : Nat) (r : List PV) (j : Nat) (p : PV), rows[i]? = some r → r[j]? = some p → TC (sub i j) (cells.getD (of_ + (i * k + j)) undef) p)
    (hsub : ∀ (i : Nat) (r : List PV) (j : Nat) (rs : List (List PV)), rows[i]? = some r → r[j]? = some (.sl rs) → Tree w (sub i j) rs)
    (hdom : ∀ i j π x, sub i j π = some x → ∃ (r : List PV) (rs : List (List PV)), rows[i]? = some r ∧ r[j]? = some (.sl rs)) (hd2 : ∀ i j i' j' q, TBlk (sub i j) q → TBlk (sub i' j') q → (i, j) = (i', j'))
    (hown : ∀ i j q, TBlk (sub i j) q → ∃ o ob, Pm.look hp o = some ob ∧ Pm.look hp' o = some .dead ∧ Blk (m o) ob q) (hroot : (∃ o ob, Pm.look hp o = some ob ∧ Pm.look hp' o = some .dead ∧ Blk (m o) ob bl) ∨ (w.heap.size ≤ bl ∧ bl < w'.heap.size))
    (hrd : ∀ i j q, TBlk (sub i j) q → q ≠ bl) (hheap : ∀ q, q < w.heap.size → q ≠ bl → w'.heap[q]? = w.heap[q]?) (hni : st = .own → w0.heap.size ≤ bl ∧ ∀ i j q, TBlk (sub i j) q → w0.heap.size ≤ q) :
    ∃ m', Mem w0 own0 S (Pm.put hp' id (.tree st rows)) w' m' ∧ Goes hp w m (Pm.put hp' id (.tree st rows)) w' m' ∧
      RepT w' m' (RR (Pm.put hp' id (.tree st rows)) w' m') (UU w0 S (Pm.put hp' id (.tree st rows)) w' m') (.slice (some ⟨bl, of_, none⟩) rows.length c) (.nr id [] 0 rows.length) := by
  have hlt : ∀ i j q, TBlk (sub i j) q → q < w.heap.size := fun i j q hq => by
    obtain ⟨π, ad, c', k', h1, h2⟩ := hq
    obtain ⟨r, rs, a1, a2⟩ := hdom i j π _ h1
    exact (hsub i r j rs a1 a2).lt ⟨π, ad, c', k', h1, h2⟩
  have hblk : ∀ q, Blk (some (CM.tree (gJoin (some ⟨bl, of_, none⟩, c, k) sub))) (.tree st rows) q → q = bl ∨ ∃ i j, TBlk (sub i j) q := fun q hq => by
    rcases TBlk.join hq with ⟨ad, h1, h2⟩ | h
    · cases h1; exact .inl h2.symm
    · exact .inr h
  obtain ⟨M', g⟩ := M.plant (w' := w') (id := id) (ob' := .tree st rows) (cm := .tree (gJoin (some ⟨bl, of_, none⟩, c, k) sub)) K on h16 hid (fun q hq => by
      rcases hblk q hq with rfl | ⟨i, j, h⟩
      · exact hroot
      · exact .inl (hown i j q h)) (fun q hq hn => hheap q hq fun e => hn ⟨[], _, _, _, rfl, e.symm⟩) (fun q hm hq => by
      have hs : st = .own := by cases st <;> first | rfl | cases hm
      rcases hblk q hq with rfl | ⟨i, j, h⟩
      · exact (hni hs).1
      · exact (hni hs).2 i j q h) (fun g => by
      have T := tree_join (w := w') (rows := rows) (A := some ⟨bl, of_, none⟩) (c := c) (k := k) (sub := sub) hc h0 (fun h => by cases h) hlen (fun ad hA => by
          cases hA
          exact ⟨rfl, e, cells, hcells, hfit, hrows⟩) (fun i r j rs hi hj => (hsub i r j rs hi hj).keep fun q hq => hheap q (hlt i j q hq) (hrd i j q hq)) hdom (fun i j q hq ad hA => by
          cases hA
          exact fun e => hrd i j q hq e.symm) hd2
      exact .tree hst T.part T.dom T.inj)
  refine ⟨_, M', g, ?_⟩
  have := RepT.nr (w := w') (R := RR (Pm.put hp' id (.tree st rows)) w' (upd m id (.tree (gJoin (some ⟨bl, of_, none⟩, c, k) sub)))) (U := UU w0 S (Pm.put hp' id (.tree st rows)) w' (upd m id (.tree (gJoin (some ⟨bl, of_, none⟩, c, k) sub))))
    (m := upd m id (.tree (gJoin (some ⟨bl, of_, none⟩, c, k) sub))) (o := id) (off := 0) (len := rows.length) (c := c) (k := k) (π := []) (A := some ⟨bl, of_, none⟩) (A' := some ⟨bl, of_, none⟩) (upd_same m id _) rfl (by omega) (.inl (by simp [Addr.add]))
  simpa using this
end
set_option maxHeartbeats 4000000 in
set_option maxRecDepth 100000 in
theorem ins_spec (b : Bool) (i : Nat) (rows : List (List PV)) (x : List PV) (hi : i ≤ rows.length) (hl : rows.length ≤ 1048576) (hx : x.length = 9) (hr9 : ∀ r ∈ rows, r.length = 9) (hrne : rows ≠ []) :
    SpecF C0 33 [.nr 0 [] 0 rows.length, .pv b (.sc (.int .i64 i)), .nr 1 [] 0 1] (insH rows x) (.nr 16 [] 0 (rows.length + 1)) (insO i rows x) := by
  refine ⟨⟨Tryz.f33, Tryz.func33, by kernel_rfl, by kernel_rfl⟩, rfl, (fun q ob h => by
    simp only [insO, Pm.look] at h
    repeat' (split at h)
    all_goals (cases h <;> rfl)), fun w own0 S m vs M hG hsz hargs => ?_⟩
  have hv0 := hargs 0 _ rfl
  have hv1 := hargs 1 _ rfl
  have hv2 := hargs 2 _ rfl
  obtain ⟨v0, v1, v2, rfl⟩ := three_args hsz
  rw [show (#[v0, v1, v2] : Array Value).getD 0 undef = v0 from rfl] at hv0
  rw [show (#[v0, v1, v2] : Array Value).getD 1 undef = v1 from rfl] at hv1
  rw [show (#[v0, v1, v2] : Array Value).getD 2 undef = v2 from rfl] at hv2
  obtain ⟨rfl, _⟩ := hv1.scv
  clear hv1 hargs hsz
  have hl0 : Pm.look (insH rows x) 0 = some (.tree .io rows) := rfl
  have hl1 : Pm.look (insH rows x) 1 = some (.tree .io [x]) := rfl
  have hE := tabOk iE _ (show C0.T iE = some _ from tyT69)
  have hT := tabOk 27 _ (show C0.T 27 = some _ from tyT27)
  rw [show C0.P = Tryz.prog from rfl] at hE hT
  have ht0 : asTree (insH rows x) (.nr 0 [] 0 rows.length) = some (0, .io, rows) := by simp [asTree, Pm.look]
  have ht1 : asTree (insH rows x) (.nr 1 [] 0 1) = some (1, .io, [x]) := by simp [asTree, Pm.look]
  obtain ⟨obd, gd, B, B', cd, kd, d1, d2, d3, d4, d5, d6, _, _, _, _, _⟩ := asTree_ok M hv0 ht0
  obtain ⟨ob, g, A, A', c, k, a1, a2, a3, a4, a5, a6, _, _, _, _, _⟩ := asTree_ok M hv2 ht1
  have hobd : obd = .tree .io rows := by rw [hl0] at d1; cases d1; rfl
  have hob : ob = .tree .io [x] := by rw [hl1] at a1; cases a1; rfl
  subst hobd
  subst hob
  obtain ⟨A1, c1, k1, b1, b2, b3, b4, b5, b6⟩ := a2.root
  rw [a3] at b1
  cases b1
  obtain ⟨B1, cd1, kd1, e1, e2, e3, e4, e5, e6⟩ := d2.root
  rw [d3] at e1
  cases e1
  have hk9 : k = 9 := by rw [← b5 x (by simp), hx]
  subst hk9
  have hkd9 : kd = 9 := by
    cases hr : rows with
    | nil => exact absurd hr hrne
    | cons r l => subst hr; rw [← e5 r (List.mem_cons_self ..), hr9 r (List.mem_cons_self ..)]
  subst hkd9
  simp only [List.length_singleton] at b2 a4
  have hpos : 0 < rows.length := List.length_pos_iff.2 hrne
  have hA : A' = A := a5.resolve_right (by omega)
  subst hA
  have hB : B' = B := d5.resolve_right (by omega)
  subst hB
  cases A' with
  | none => have := b4 rfl; omega
  | some ad2 =>
  cases B' with
  | none => have := e4 rfl; omega
  | some ad =>
  obtain ⟨hs2, eb2, cells2, p1, p2, p3⟩ := b6 ad2 rfl
  obtain ⟨hs, eb, cells, q1, q2, q3⟩ := e6 ad rfl
  obtain ⟨vb, vo, sp2⟩ := ad2
  obtain ⟨bl, off, sp⟩ := ad
  simp only at hs hs2
  subst hs
  subst hs2
  dsimp only at p1 p2 p3 q1 q2 q3
  subst a4
  subst d4
  by_cases hin : i = rows.length
  · subst hin
    obtain ⟨u, w', m', hrun, M', g', hr⟩ := append_tree_row (P := Tryz.prog) (id := 16) (hp' := insO rows.length rows x) M hT rfl Tryz.underlying27 (.inl ⟨_, rfl⟩) hE 27 hv0 hv2 ht0 ht1 (by decide) (by simp [kOk, Pm.look, hrne]) (.inr (by decide)) (by decide) (by simp) hr9 (by simpa using hx)
      (by simp [Pm.roomBytes]; omega) (by simp; omega) (by simp [add, insO, Pm.put, Pm.look, bothOwn])
    refine (ins_end (some ⟨bl, off, none⟩) rows.length cd ⟨vb, vo, none⟩ c w w' u hrun).mono fun e w2 ⟨he, hw⟩ => ?_
    subst he
    subst hw
    exact ⟨_, m', rfl, M', hr, fun i hi c hc _ => g'.ext i c hc⟩
  have hlt : i < rows.length := by omega
  have hroot : TBlk gd bl := ⟨[], _, _, _, d3, rfl⟩
  have cross : ∀ q, TBlk gd q → TBlk g q → False := fun q h h' => by
    have := M.sep 0 1 _ _ q hl0 hl1 (d6 q h) (a6 q h')
    cases this
  have hne : vb ≠ bl := fun e => cross bl hroot ⟨[], _, _, _, a3, e⟩
  have hw2 : wideT eb2 = true := p1.2.resolve_left (by decide)
  have d1' : Cells w vb eb2 cells2 := p1.1
  have c1' : Cells w bl eb cells := q1.1
  have hone := tcells_one (off := off) e5 q3
  have hone2 := tcells_one (off := vo) b5 p3
  have hlen4 : ∀ r ∈ rows.take i ++ x :: rows.drop i, r.length = 9 := fun r hr => by
    rcases ins_mem hr with h | h
    · exact hr9 r h
    · rw [h]; exact hx
  have hlen : (rows.take i ++ x :: rows.drop i).length = rows.length + 1 := by simp; omega
  have hcs : off + rows.length * 9 ≤ cells.size := by
    have : rows.length * 9 ≤ cd * 9 := Nat.mul_le_mul_right _ e2
    omega
  have hv9 : vo + 1 * 9 ≤ cells2.size := by
    have : 1 * 9 ≤ c * 9 := Nat.mul_le_mul_right _ b2
    omega
  have honeD : ∀ j, j < (rows.length - i) * 9 → (cells.getD (off + i * 9 + j) undef).oneCell' = true := fun j hj => by
    have := hone (i * 9 + j) (by omega)
    rwa [show off + (i * 9 + j) = off + i * 9 + j by omega] at this
  have honeV : ∀ j, j < 1 * 9 → (cells2.getD (vo + j) undef).oneCell' = true := fun j hj => hone2 j (by simpa using hj)
  let subI : Nat → Nat → GMap := fun t j => if t < i then (fun π => gd ((t, j) :: π)) else if t = i then (fun π => g ((0, j) :: π)) else (fun π => gd ((t - 1, j) :: π))
  have I1 : ∀ t j, t < i → subI t j = fun π => gd ((t, j) :: π) := fun t j h => by simp only [subI, h, if_true]
  have I2 : ∀ j, subI i j = fun π => g ((0, j) :: π) := fun j => by simp only [subI, Nat.lt_irrefl, if_false, if_true]
  have I3 : ∀ t j, i < t → subI t j = fun π => gd ((t - 1, j) :: π) := fun t j h => by
    have h1 : ¬ t < i := by omega
    have h2 : ¬ t = i := by omega
    simp only [subI, h1, h2, if_false]
  have split3 : ∀ t : Nat, t < i ∨ t = i ∨ i < t := fun t => by omega
  have hsub : ∀ (t : Nat) (r : List PV) (j : Nat) (rs : List (List PV)), (rows.take i ++ x :: rows.drop i)[t]? = some r → r[j]? = some (.sl rs) → Tree w (subI t j) rs := fun t r j rs ht hj => by
    rcases ins_at hi ht with ⟨h1, h2⟩ | ⟨h1, h2⟩ | ⟨h1, h2⟩
    · rw [I1 t j h1]; exact d2.sub h2 hj
    · subst h1; subst h2; rw [I2]; exact a2.sub (by rfl) hj
    · rw [I3 t j h1]; exact d2.sub h2 hj
  have hdom : ∀ t j π y, subI t j π = some y → ∃ (r : List PV) (rs : List (List PV)), (rows.take i ++ x :: rows.drop i)[t]? = some r ∧ r[j]? = some (.sl rs) := fun t j π y hy => by
    rcases split3 t with h | h | h
    · rw [I1 t j h] at hy
      obtain ⟨r, rs, r1, r2⟩ := d2.subdom hy
      exact ⟨r, rs, by rw [ins_get hi, if_pos h]; exact r1, r2⟩
    · subst h
      rw [I2] at hy
      obtain ⟨r, rs, r1, r2⟩ := a2.subdom hy
      have : r = x := by simpa using r1.symm
      subst this
      exact ⟨r, rs, by rw [ins_get hi, if_neg (by omega), if_pos rfl], r2⟩
    · rw [I3 t j h] at hy
      obtain ⟨r, rs, r1, r2⟩ := d2.subdom hy
      exact ⟨r, rs, by rw [ins_get hi, if_neg (by omega), if_neg (by omega)]; exact r1, r2⟩
  have which : ∀ t j q, TBlk (subI t j) q → (t ≠ i ∧ TBlk (fun π => gd ((if t < i then t else t - 1, j) :: π)) q) ∨ (t = i ∧ TBlk (fun π => g ((0, j) :: π)) q) := fun t j q h => by
    rcases split3 t with h1 | h1 | h1
    · rw [I1 t j h1] at h; exact .inl ⟨by omega, by rw [if_pos h1]; exact h⟩
    · subst h1; rw [I2] at h; exact .inr ⟨rfl, h⟩
    · rw [I3 t j h1] at h; exact .inl ⟨by omega, by rw [if_neg (by omega)]; exact h⟩
  have hd2' : ∀ t j t' j' q, TBlk (subI t j) q → TBlk (subI t' j') q → (t, j) = (t', j') := fun t j t' j' q h h' => by
    rcases which t j q h with ⟨n1, h1⟩ | ⟨n1, h1⟩ <;> rcases which t' j' q h' with ⟨n2, h2⟩ | ⟨n2, h2⟩
    · have h3 := d2.subdis h1 h2
      simp only [Prod.mk.injEq] at h3
      obtain ⟨h4, rfl⟩ := h3
      have : t = t' := by
        by_cases u1 : t < i <;> by_cases u2 : t' < i <;> simp only [u1, u2, if_true, if_false] at h4 <;> omega
      rw [this]
    · exact (cross q h1.of_sub h2.of_sub).elim
    · exact (cross q h2.of_sub h1.of_sub).elim
    · have h3 := a2.subdis h1 h2
      simp only [Prod.mk.injEq] at h3
      rw [n1, n2, h3.2]
  have K : Killed (insH rows x) [(0, .dead), (1, .dead)] := by
    refine ⟨fun o ob' ho => ?_, fun o => ?_⟩
    · simp only [Pm.look] at ho
      split at ho
      · cases ho; exact .inr rfl
      · split at ho
        · cases ho; exact .inr rfl
        · cases ho
    · simp only [insH, Pm.look]
      by_cases h0 : o = 0
      · simp [h0]
      · by_cases h1 : o = 1
        · simp [h1]
        · simp [h0, h1]
  have hown : ∀ t j q, TBlk (subI t j) q → ∃ o ob', Pm.look (insH rows x) o = some ob' ∧ Pm.look ([(0, .dead), (1, .dead)] : Hp) o = some .dead ∧ Blk (m o) ob' q := fun t j q h => by
    rcases which t j q h with ⟨_, h1⟩ | ⟨_, h1⟩
    · exact ⟨0, _, hl0, rfl, d6 q h1.of_sub⟩
    · exact ⟨1, _, hl1, rfl, a6 q h1.of_sub⟩
  have hrd : ∀ t j q, TBlk (subI t j) q → q ≠ bl := fun t j q h e => by
    subst e
    rcases which t j _ h with ⟨_, h1⟩ | ⟨_, h1⟩
    · exact d2.subroot h1 d3 rfl
    · exact cross _ hroot h1.of_sub
  have hltq : ∀ t j q, TBlk (subI t j) q → q < w.heap.size := fun t j q h => by
    rcases which t j q h with ⟨_, h1⟩ | ⟨_, h1⟩
    · exact d2.lt h1.of_sub
    · exact a2.lt h1.of_sub
  have hdr : On w w.drew := ⟨rfl, rfl, rfl, Nat.le_refl _, fun _ => Nat.le_succ _⟩
  have c1d : Cells w.drew bl eb cells := c1'
  obtain ⟨D, hD⟩ : ∃ D, D = lst cells (off + i * 9) ((rows.length - i) * 9) := ⟨_, rfl⟩
  obtain ⟨V, hV⟩ : ∃ V, V = lst cells2 vo (1 * 9) := ⟨_, rfl⟩
  have hDl : D.length = (rows.length - i) * 9 := by rw [hD, lst_len]
  have hVl : V.length = 9 := by rw [hV, lst_len]
  have fin : ∀ {w2 : World} {e0 bl0 of0 c0 : Nat} {cl : Array Value}, On w w2 → Cells w2 bl0 e0 cl → of0 + c0 * 9 ≤ cl.size → rows.length + 1 ≤ c0 → (bl0 = bl ∨ (w.heap.size ≤ bl0 ∧ bl0 < w2.heap.size)) → (∀ q, q < w.heap.size → q ≠ bl0 → w2.heap[q]? = w.heap[q]?) → wideT e0 = true →
      (∀ q, q < (rows.length + 1) * 9 → cl.getD (of0 + q) undef = if q < i * 9 then cells.getD (off + q) undef else if q < (i + 1) * 9 then cells2.getD (vo + (q - i * 9)) undef else cells.getD (off + (q - 9)) undef) →
      ∃ m', Mem w own0 S (insO i rows x) w2 m' ∧ Goes (insH rows x) w m (insO i rows x) w2 m' ∧ RepT w2 m' (RR (insO i rows x) w2 m') (UU w S (insO i rows x) w2 m') (.slice (some ⟨bl0, of0, none⟩) (rows.length + 1) c0) (.nr 16 [] 0 (rows.length + 1)) := by
    intro w2 e0 bl0 of0 c0 cl on hcl hfit hc0 hbl0 hheap hwe hcell
    have := plant_at (w' := w2) (id := 16) (st := .io) (e := e0) (bl := bl0) (of_ := of0) (k := 9) (c := c0) (rows := rows.take i ++ x :: rows.drop i) (cells := cl) (sub := subI) M K on (by decide) (by decide) rfl ⟨hcl, .inr hwe⟩ hfit (by decide) (by rw [hlen]; exact hc0) hlen4 (fun t r j p ht hj => by
        have hrl : r.length = 9 := hlen4 r (List.mem_of_getElem? ht)
        have hjl : j < 9 := by rw [← hrl]; exact (List.getElem?_eq_some_iff.1 hj).1
        have htl : t < rows.length + 1 := by rw [← hlen]; exact (List.getElem?_eq_some_iff.1 ht).1
        rw [hcell _ (by omega)]
        rcases ins_at hi ht with ⟨h1, h2⟩ | ⟨h1, h2⟩ | ⟨h1, h2⟩
        · rw [if_pos (by omega), I1 t j h1]
          exact q3 t r j p h2 hj
        · subst h1
          subst h2
          rw [if_neg (by omega), if_pos (by omega), I2, show vo + (t * 9 + j - t * 9) = vo + (0 * 9 + j) by omega]
          exact p3 0 r j p rfl hj
        · rw [if_neg (by omega), if_neg (by omega), I3 t j h1, show off + (t * 9 + j - 9) = off + ((t - 1) * 9 + j) by omega]
          exact q3 (t - 1) r j p h2 hj) hsub hdom hd2' hown (by
        rcases hbl0 with rfl | h
        · exact .inl ⟨0, _, hl0, rfl, d6 _ hroot⟩
        · exact .inr h) (fun t j q h e => by
        rcases hbl0 with rfl | h'
        · exact hrd t j q h e
        · have := hltq t j q h; omega) hheap (fun h => by cases h)
    rw [hlen] at this
    exact this
  by_cases hroom : rows.length + 1 ≤ cd
  · have hfit : off + (rows.length + 1) * 9 ≤ cells.size := by
      have : (rows.length + 1) * 9 ≤ cd * 9 := Nat.mul_le_mul_right _ hroom
      omega
    have k1 : Cells (w.drew.setCells bl (off + (i + 1) * 9) D) bl eb (over cells (off + (i + 1) * 9) D) := Cells.setCells _ _ c1d
    have hcall := ins_shift bl off rows.length cd i vb vo c w (w.drew.setCells bl (off + (i + 1) * 9) D) (goInt (rows.length - i : Nat)) (goInt (1 : Nat)) V hlt hroom (by omega) hne eb2 eb cells2.size cells.size d1'.shape c1'.shape (by omega) (wide_plain d1' hw2 _) (wide_plain d1' hw2 _)
      (fun ty dc sc => by
        rw [hD]
        exact copy9 _ c1d c1d (by simp only [Nat.min_def]; split <;> omega) (by omega) (by omega) honeD ty)
      (fun W hW ty dc => by
        rw [hV]
        have k2 : Cells W bl eb (over cells (off + (i + 1) * 9) D) := k1.of_block (by rw [hW])
        have k3 : Cells W vb eb2 cells2 := d1'.of_block (by rw [hW, setCells_heap bl _ _ _ vb hne]; rfl)
        exact copy9 (q := 1) _ k2 k3 (by simp only [Nat.min_def]; split <;> omega) (by rw [over_size]; omega) hv9 honeV ty)
    refine hcall.mono fun e w2 ⟨he, hw⟩ => ?_
    subst he
    have on : On w w2 := by rw [hw]; exact (hdr.trans (setCells_on _ _ _ _)).trans (setCells_on _ _ _ _)
    have k4 : Cells w2 bl eb (over (over cells (off + (i + 1) * 9) D) (off + i * 9) V) := by rw [hw]; exact Cells.setCells _ _ k1
    obtain ⟨m', M', g', R'⟩ := fin on k4 (by rw [over_size, over_size]; exact q2) hroom (.inl rfl) (fun q _ hq => by rw [hw, setCells_heap bl _ _ _ q hq, setCells_heap bl _ _ _ q hq]; rfl) (q1.2.resolve_left (by decide)) (fun q hq => by
      rw [over_get _ _ _ (by rw [over_size, hVl]; omega), over_get _ _ _ (by rw [hDl]; omega), hVl, hDl]
      by_cases h1 : q < i * 9
      · rw [if_pos h1, if_neg (by omega), if_neg (by omega)]
      · by_cases h2 : q < (i + 1) * 9
        · rw [if_neg h1, if_pos h2, if_pos (by omega), hV, lst_getD _ _ _ _ (by omega), show vo + (off + q - (off + i * 9)) = vo + (q - i * 9) by omega]
        · rw [if_neg h1, if_neg h2, if_neg (by omega), if_pos (by omega), hD, lst_getD _ _ _ _ (by omega), show off + i * 9 + (off + q - (off + (i + 1) * 9)) = off + (q - 9) by omega])
    exact ⟨_, m', rfl, M', R', fun i hi c hc _ => g'.ext i c hc⟩
  · obtain ⟨ti, r1, r2, r3, z, r4, r5, _⟩ := hE.info
    have r2 : ti.size = 9 := r2
    have r3 : ti.bytes = 152 := r3
    have r5 : z.cells.size = 9 := r5
    have hik : i + (rows.length + 1 - i) = rows.length + 1 := by omega
    have hcast : ((rows.length + 1 - i : Nat) : Int) = (rows.length : Int) + 1 - i := by omega
    have hfits := growslice_fits (need := rows.length + 1) (old := cd) (bytes := 152) (by omega) (by omega)
    have hap0 := fun ty => Lib.run_append_grow_zeros w 27 3 ty iE ti z .i64 .i64 Tryz.underlying27 Tryz.underlying3 r1 r4 (some ⟨bl, off, none⟩) i cd (lst cells off (i * 9))
      (by have := loadN (n := i * 9) (o := off) c1d (by omega)
          simp [Builtin.firstCells, r2, this]) (rows.length + 1 - i) (by omega) (by omega) (by omega) (by rw [hik]; omega) (by rw [r3]; omega) (by rw [hik, r3]; exact hfits)
    have hG := grownCap_ge w (rows.length + 1) cd iE
    have hG63 := grownCap_le_maxLen w (rows.length + 1) cd iE (by unfold maxLen; omega)
    rw [hik, hcast] at hap0
    generalize grownCap w (rows.length + 1) cd iE = G at hap0 hG hG63
    obtain ⟨cells0, hc0⟩ : ∃ cells0, cells0 = (lst cells off (i * 9)).toArray ++ Builtin.zeroCells z.cells (rows.length + 1 - i) ++ Builtin.zeroCells z.cells (G - (rows.length + 1)) := ⟨_, rfl⟩
    rw [← hc0] at hap0
    have hsz0 : cells0.size = G * 9 := by
      rw [hc0]
      simp only [Array.size_append, size_zeroCells, r5, List.size_toArray, lst_len]
      omega
    have hlow : ∀ q, q < i * 9 → cells0.getD q undef = cells.getD (off + q) undef := fun q hq => by
      rw [← lst_getD cells off (i * 9) q hq, hc0]
      simp [Array.getD_eq_getD_getElem?, Array.append_assoc, List.getD_eq_getElem?_getD, Array.getElem?_append_left, hq]
    have k0 : Cells (w.drew.alloc (.cells cells0 iE)) w.heap.size iE cells0 := Cells.alloc w.drew cells0 iE
    have hold : ∀ q, q < w.heap.size → (w.drew.alloc (.cells cells0 iE)).heap[q]? = w.heap[q]? := fun q hq => Pm.alloc_old w.drew _ q hq
    have hsz1 : (w.drew.alloc (.cells cells0 iE)).heap.size = w.heap.size + 1 := Pm.alloc_size w.drew _
    have on1 : On w (w.drew.alloc (.cells cells0 iE)) := hdr.trans (On.alloc _ _)
    generalize hW1 : w.drew.alloc (.cells cells0 iE) = W1 at hap0 k0 hold hsz1 on1
    have k1 : Cells (W1.setCells w.heap.size (i * 9) V) w.heap.size iE (over cells0 (i * 9) V) := Cells.setCells _ _ k0
    have hnb : ∀ q, q < w.heap.size → q ≠ w.heap.size := fun q hq => by omega
    have hcall := ins_grow bl off rows.length cd i vb vo c w.heap.size G w W1 (goInt (1 : Nat)) (goInt (rows.length - i : Nat)) V D hlt e2 (by omega) (by omega) hG (by unfold maxLen at hG63; omega) hap0
      (fun W hW ty dc => by
        rw [hV]
        have k2 : Cells W w.heap.size iE cells0 := k0.of_block (by rw [hW])
        have k3 : Cells W vb eb2 cells2 := d1'.of_block (by rw [hW]; exact hold vb d1'.lt)
        exact copy9 (q := 1) _ k2 k3 (by simp only [Nat.min_def]; split <;> omega) (by omega) hv9 honeV ty)
      (fun W hW ty dc sc => by
        rw [hD]
        have k2 : Cells W w.heap.size iE (over cells0 (i * 9) V) := k1.of_block (by rw [hW])
        have k3 : Cells W bl eb cells := c1'.of_block (by rw [hW, setCells_heap _ _ _ _ bl (hnb bl c1'.lt)]; exact hold bl c1'.lt)
        exact copy9 _ k2 k3 (by simp only [Nat.min_def]; split <;> omega) (by rw [over_size]; omega) (by omega) honeD ty)
    refine hcall.mono fun e w2 ⟨he, hw⟩ => ?_
    subst he
    have on : On w w2 := by
      rw [hw]
      have o2 := on1.trans (setCells_on w.heap.size V (i * 9) W1)
      have o3 : On w (W1.setCells w.heap.size (i * 9) V).drew := o2.trans ⟨rfl, rfl, rfl, Nat.le_refl _, fun _ => Nat.le_succ _⟩
      exact o3.trans (setCells_on _ _ _ _)
    have hheap : ∀ q, q < w.heap.size → w2.heap[q]? = w.heap[q]? := fun q hq => by
      rw [hw, setCells_heap _ _ _ _ q (hnb q hq)]
      show (W1.setCells w.heap.size (i * 9) V).heap[q]? = _
      rw [setCells_heap _ _ _ _ q (hnb q hq)]
      exact hold q hq
    have k1d : Cells (W1.setCells w.heap.size (i * 9) V).drew w.heap.size iE (over cells0 (i * 9) V) := k1
    have k4 : Cells w2 w.heap.size iE (over (over cells0 (i * 9) V) ((i + 1) * 9) D) := by rw [hw]; exact Cells.setCells _ _ k1d
    obtain ⟨m', M', g', R'⟩ := fin (of0 := 0) (c0 := G) on k4 (by rw [over_size, over_size]; omega) hG (.inr ⟨Nat.le_refl _, k4.lt⟩) (fun q hq _ => hheap q hq) (by decide) (fun q hq => by
      rw [Nat.zero_add, over_get _ _ _ (by rw [over_size, hDl]; omega), over_get _ _ _ (by rw [hVl]; omega), hVl, hDl]
      by_cases h1 : q < i * 9
      · rw [if_pos h1, if_neg (by omega), if_neg (by omega), hlow _ h1]
      · by_cases h2 : q < (i + 1) * 9
        · rw [if_neg h1, if_pos h2, if_neg (by omega), if_pos (by omega), hV, lst_getD _ _ _ _ (by omega)]
        · rw [if_neg h1, if_neg h2, if_pos (by omega), hD, lst_getD _ _ _ _ (by omega), show off + i * 9 + (q - (i + 1) * 9) = off + (q - 9) by omega])
    exact ⟨_, m', rfl, M', R', fun i hi c hc _ => g'.ext i c hc⟩
set_option maxHeartbeats 4000000 in
set_option maxRecDepth 100000 in
theorem ins_nil (b : Bool) (x : List PV) (hx : x.length = 9) :
    SpecF C0 33 [.nl, .pv b (.sc (.int .i64 0)), .nr 0 [] 0 1] [(0, .tree .io [x])] (.nr 16 [] 0 1) [(0, .dead), (16, .tree .io [x])] := by
  refine ⟨⟨Tryz.f33, Tryz.func33, by kernel_rfl, by kernel_rfl⟩, rfl, (fun q ob h => by
    simp only [Pm.look] at h
    repeat' (split at h)
    all_goals (cases h <;> rfl)), fun w own0 S m vs M hG hsz hargs => ?_⟩
  have hv0 := hargs 0 _ rfl
  have hv1 := hargs 1 _ rfl
  have hv2 := hargs 2 _ rfl
  obtain ⟨v0, v1, v2, rfl⟩ := three_args hsz
  rw [show (#[v0, v1, v2] : Array Value).getD 0 undef = v0 from rfl] at hv0
  rw [show (#[v0, v1, v2] : Array Value).getD 1 undef = v1 from rfl] at hv1
  rw [show (#[v0, v1, v2] : Array Value).getD 2 undef = v2 from rfl] at hv2
  obtain ⟨rfl, _⟩ := hv1.scv
  clear hv1 hargs hsz
  cases hv0
  have hE := tabOk iE _ (show C0.T iE = some _ from tyT69)
  have hT := tabOk 27 _ (show C0.T 27 = some _ from tyT27)
  rw [show C0.P = Tryz.prog from rfl] at hE hT
  have ht1 : asTree [(0, OB.tree .io [x])] (.nr 0 [] 0 1) = some (0, .io, [x]) := by simp [asTree, Pm.look]
  obtain ⟨u, w', m', hrun, M', g', hr⟩ := append_tree_nil (P := Tryz.prog) (id := 16) (hp' := [(0, OB.dead), (16, OB.tree .io [x])]) M hT rfl Tryz.underlying27 (.inl ⟨_, rfl⟩) hE 27 hv2 ht1 (.inr (by decide)) (by decide) (by simp) (by simpa using hx)
    (by simp [Pm.roomBytes]) (by simp) (by simp [add, Pm.put, Pm.look])
  obtain ⟨ob, g, A, A', c, k, a1, a2, a3, a4, a5, a6, _, _, _, _, _⟩ := asTree_ok M hv2 ht1
  obtain ⟨A1, c1, k1, b1, b2, b3, b4, b5, b6⟩ := a2.root
  rw [a3] at b1
  cases b1
  simp only [List.length_singleton] at b2 a4
  have hA : A' = A := a5.resolve_right (by omega)
  subst hA
  cases A' with
  | none => have := b4 rfl; omega
  | some ad2 =>
  subst a4
  refine (ins_end none 0 0 ad2 c w w' u hrun).mono fun e w2 ⟨he, hw⟩ => ?_
  subst he
  subst hw
  exact ⟨_, m', rfl, M', hr, fun i hi c hc _ => g'.ext i c hc⟩
end Go.Proofs.YtgbfmdihmnpcdaaGreatDoor.IT
