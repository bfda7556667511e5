/- The pure machine and the library's contracts: a row that is laid anew; a comparison. -/
import Derived.Test.YtopoaemlbnkhgaaPm4
import Derived.Sort.Grow
import Derived.Sort.WalkA
namespace Go.Pm
open Go
set_option linter.unusedVariables false
set_option linter.unusedSimpArgs false

theorem cells_put {w : World} {b e off n : Nat} {cells F : Array Value} {os : Array Obj} (h : Cells w b e cells) : Cells (Sort.grow (Sort.putRow id (Sort.ahead w n) b off F) os) b e (Sort.putCells id off F cells) := by
  have hlt := h.lt
  obtain ⟨fr, h1, h2⟩ := h
  have e1 : (Sort.grow (Sort.putRow id (Sort.ahead w n) b off F) os).heap[b]? = some (.cells (Sort.putCells id off F cells) e fr) := by
    simp only [Sort.grow, Sort.putRow, Sort.mapBlock, Sort.ahead]
    rw [Array.getElem?_append_left (by simpa using hlt), Array.getElem?_modify, if_pos rfl, h1]
    rfl
  refine ⟨fr, e1, fun o ho => ?_⟩
  have h3 := h2 o (by simpa [Sort.putCells] using ho)
  simpa [World.frozen?, e1, h1] using h3
theorem heap_put {w : World} {b off n q : Nat} {F : Array Value} {os : Array Obj} (hq : q < w.heap.size) (hn : q ≠ b) : (Sort.grow (Sort.putRow id (Sort.ahead w n) b off F) os).heap[q]? = w.heap[q]? := by
  simp only [Sort.grow, Sort.putRow, Sort.mapBlock, Sort.ahead]
  rw [Array.getElem?_append_left (by simpa using hq), Array.getElem?_modify, if_neg (Ne.symm hn)]
theorem on_put {w : World} {b off n : Nat} {F : Array Value} {os : Array Obj} : On w (Sort.grow (Sort.putRow id (Sort.ahead w n) b off F) os) :=
  ⟨rfl, rfl, rfl, by simp [Sort.grow, Sort.putRow, Sort.mapBlock, Sort.ahead], by simp [Sort.grow, Sort.putRow, Sort.mapBlock, Sort.ahead]⟩
theorem putCells_getD {off t : Nat} {F cells : Array Value} (h : off + t < cells.size) (ht : t < F.size) : (Sort.putCells id off F cells).getD (off + t) undef = F[t]! := by
  have h' : off + t < (Sort.putCells id off F cells).size := by simpa [Sort.putCells] using h
  rw [Array.getD_eq_getD_getElem?, Array.getElem?_eq_getElem h']
  simp [Sort.putCells, ht]

theorem sort_mem {w0 w : World} {own0 S : Nat → Prop} {m : Mp} {e k c : Nat} {ad : Addr} {rows rows' : List (List PV)} (M : Mem w0 own0 S [(0, .row .io e k rows)] w m) (hm : m 0 = some (.row (some ad) c k)) {F : Array Value} (hF : F.size = rows'.length * k)
    (hl : rows'.length = rows.length) (hk : ∀ r ∈ rows', r.length = k) (hv : ∀ (i : Nat) (r : List PV) (j : Nat) (p : PV), rows'[i]? = some r → r[j]? = some p → p = .sc F[i * k + j]! ∧ plain F[i * k + j]! = true) {n : Nat} {os : Array Obj} :
    Mem w0 own0 S [(0, .row .io e k rows')] (Sort.grow (Sort.putRow id (Sort.ahead w n) ad.block ad.off F) os) m := by
  have hlk : look [(0, OB.row .io e k rows)] 0 = some (.row .io e k rows) := rfl
  have hob := M.obs 0 _ hlk
  rw [hm] at hob
  cases hob with
  | row h1 h2 h3 h4 h5 =>
    obtain ⟨hs, hf, cells, c1, c2, c3⟩ := h5 ad rfl
    have hp' : [(0, OB.row .io e k rows')] = put [(0, OB.row .io e k rows)] 0 (.row .io e k rows') := rfl
    rw [hp']
    have hb0 : blockOf (m 0) (.row .io e k rows) = some ad.block := by rw [hm]; rfl
    refine M.put on_put hlk (fun b hb => ?_) (fun b hb hn => ?_) (fun _ _ _ _ h => by cases h) ?_
    · rw [hm] at hb ⊢; exact hb
    · exact heap_put hb fun e => hn (by rw [e, hb0])
    · rw [hm]
      refine .row (by omega) h2 h3 hk fun ad' hA => ?_
      cases hA
      refine ⟨hs, (fun h => by cases h), _, cells_put c1, by simpa [Sort.putCells] using c2, fun i r j p hi hj => ?_⟩
      have hil : i < rows'.length := (List.getElem?_eq_some_iff.1 hi).1
      have hjl : j < k := by rw [← hk r (List.mem_of_getElem? hi)]; exact (List.getElem?_eq_some_iff.1 hj).1
      have hlt : i * k + j < rows'.length * k := by
        have := Nat.mul_le_mul_right k (show i + 1 ≤ rows'.length from hil)
        rw [Nat.add_mul, Nat.one_mul] at this
        omega
      have hlc : rows'.length * k ≤ c * k := Nat.mul_le_mul_right k (by omega)
      obtain ⟨q1, q2⟩ := hv i r j p hi hj
      rw [putCells_getD (by omega) (by omega), q1]
      exact .sc q2

/-- What the row holds. -/
theorem sort_holds {w0 w : World} {own0 S : Nat → Prop} {m : Mp} {e k c : Nat} {ad : Addr} {rows : List (List PV)} (M : Mem w0 own0 S [(0, .row .io e k rows)] w m) (hm : m 0 = some (.row (some ad) c k)) {F : Array Value} (hF : F.size = rows.length * k)
    (hv : ∀ (i j : Nat), i < rows.length → j < k → ∃ r, rows[i]? = some r ∧ r[j]? = some (.sc F[i * k + j]!)) :
    Sort.Holds id w ad.block ad.off F ∧ ad.block < w.heap.size ∧ ad.spot = none := by
  have hob := M.obs 0 _ (rfl : look [(0, OB.row .io e k rows)] 0 = some (.row .io e k rows))
  rw [hm] at hob
  cases hob with
  | row h1 h2 h3 h4 h5 =>
    obtain ⟨hs, hf, cells, c1, c2, c3⟩ := h5 ad rfl
    refine ⟨fun t ht => ?_, c1.lt, hs⟩
    have hi : t / k < rows.length := by rw [hF] at ht; exact Nat.div_lt_of_lt_mul (by rwa [Nat.mul_comm] at ht)
    obtain ⟨r, r1, r2⟩ := hv (t / k) (t % k) hi (Nat.mod_lt _ h2)
    have e1 : t / k * k + t % k = t := Nat.div_add_mod' t k
    have h6 := c3 _ _ _ _ r1 r2
    rw [e1] at h6
    have hlc : rows.length * k ≤ c * k := Nat.mul_le_mul_right k h1
    have hc : ad.off + t < cells.size := by omega
    refine ⟨?_, c1.frz hc⟩
    rw [c1.cell, Array.getElem?_eq_getElem hc]
    generalize hx : cells.getD (ad.off + t) undef = x at h6
    rw [Array.getD_eq_getD_getElem?, Array.getElem?_eq_getElem hc] at hx
    cases h6
    simpa using hx

/-- A function that is handed plain data alone: whatever the world, it lays blocks and draws. -/
theorem spec_quiet {C : Cfg} {g : FuncId} {ts : List TV} {v : Value} (h : SpecF C g ts [] (.pv false (.sc v)) []) (W : World) {vs : Array Value} (hsz : vs.size = ts.length) (hts : ∀ (j : Nat) (t : TV), ts[j]? = some t → ∀ (m : Mp) (R U : Nat → Prop), RepT W m R U (vs.getD j undef) t) :
    Calls C.P g vs W fun e w' => e = .returned v ∧ ∃ q os', w' = Sort.grow (W.drewN q) os' := by
  have hno : ∀ b, ¬ Own (fun _ => none) [] b := fun b ⟨o, ob, h1, _⟩ => by cases h1
  have M : Mem W (fun _ => False) (fun _ => False) [] W (fun _ => none) :=
    ⟨⟨rfl, rfl, rfl, Nat.le_refl _, fun _ _ _ => rfl, Nat.le_refl _⟩, fun _ _ => rfl, fun b h => absurd h (hno b), fun _ _ _ _ _ h => (by cases h), fun _ _ _ _ _ h => (by cases h), fun b h => h.elim, fun _ h => h.elim, fun _ _ h => (by cases h)⟩
  obtain ⟨_, _, _, hs⟩ := h
  refine (hs W (fun _ => False) (fun _ => False) (fun _ => none) vs M hsz (fun j t hj => hts j t hj _ _ _)).mono ?_
  rintro e W' ⟨v', mo, rfl, M', hv, _⟩
  obtain ⟨rfl, _⟩ := hv.scv
  refine ⟨rfl, W'.drawn - W.drawn, W'.heap.extract W.heap.size, ?_⟩
  obtain ⟨f1, f2, f3, f4, f5, f6⟩ := M'.fr
  obtain ⟨hh, ht, hd, ho, hu⟩ := W'
  obtain ⟨hh0, ht0, hd0, ho0, hu0⟩ := W
  simp only at f1 f2 f3 f4 f5 f6
  subst f1 f2 f3
  have e1 : hh = hh0 ++ hh.extract hh0.size := by
    apply Array.ext_getElem?
    intro i
    by_cases hi : i < hh0.size
    · rw [Array.getElem?_append_left hi]; exact f5 i hi (fun h => h)
    · rw [Array.getElem?_append_right (by omega), Array.getElem?_extract]
      by_cases h2 : i < hh.size
      · rw [if_pos (by omega), show hh0.size + (i - hh0.size) = i by omega]
      · rw [if_neg (by omega), Array.getElem?_eq_none (by omega)]
  simp only [Sort.grow, World.drewN]
  rw [← e1, show hd0 + (hd - hd0) = hd by omega]

end Go.Pm
