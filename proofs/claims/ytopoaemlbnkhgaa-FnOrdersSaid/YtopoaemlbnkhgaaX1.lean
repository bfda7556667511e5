/- What is known of the library's functions, over the model; what is asked of the program. -/
import Derived.Test.YtopoaemlbnkhgaaGB
import Derived.Test.YtopoaemlbnkhgaaX0
import Derived.Test.YtopoaemlbnkhgaaXS
import Derived.Shelf.SlSortCmp.NoneTotal
import Derived.Shelf.Sort.Plain
import Derived.Shelf.Slices.CompactI
import Derived.Shelf.Slices.In.SortNone
namespace Go.Proofs.Ytopoaemlbnkhgaa
open Go Go.Pm Go.Proofs
set_option linter.unusedVariables false
set_option linter.unusedSimpArgs false
section
variable {α : Type} [Inhabited α] {encV : α → List Value} {k : Nat}
/-- Values as plain data. -/
def scs (l : List Value) : List PV := l.map PV.sc
theorem flat_at (hk : ∀ x, (encV x).length = k) (l : List α) {i j : Nat} (hi : i < l.length) (hj : j < k) : (Sort.flatK encV k l.toArray)[i * k + j]! = (encV l[i])[j]'(by rw [hk]; exact hj) := by
  have lt : i * k + j < l.toArray.size * k := by
    have := Nat.mul_le_mul_right k (show i + 1 ≤ l.length from hi)
    rw [Nat.add_mul, Nat.one_mul] at this
    simpa using (by omega : i * k + j < l.length * k)
  have e1 : (i * k + j) / k = i := (Sort.blk_iff k i _ (by omega)).1 ⟨by omega, by omega⟩
  have e2 : (i * k + j) % k = j := by rw [Nat.mod_eq_sub_div_mul, e1]; omega
  rw [Sort.get_flatK _ _ _ _ lt, e1, e2]
  have e3 : l.toArray[i]! = l[i] := by simp [hi]
  rw [e3]
  have hjl : j < (encV l[i]).length := by rw [hk]; exact hj
  simp [hjl]
/-- What a function is handed that lays a row anew. -/
theorem row_start {w0 w : World} {own0 S R U : Nat → Prop} {m : Mp} {t : Nat} {v : Value} {rows : List (List PV)} (M : Mem w0 own0 S [(0, .row .io t k rows)] w m) (hv : RepT w m R U v (.ref 0 0 rows.length)) :
    (rows = [] ∧ ∃ A c, v = .slice A 0 c) ∨ ∃ bl of_ c, v = .slice (some ⟨bl, of_, none⟩) rows.length c ∧ m 0 = some (.row (some ⟨bl, of_, none⟩) c k) ∧ rows.length ≤ c := by
  have hob := M.obs 0 _ (rfl : Pm.look [(0, OB.row .io t k rows)] 0 = some (.row .io t k rows))
  generalize hn : rows.length = n at hv
  cases hv with
  | @ref _ _ _ c k' A A' hm hoc hA =>
    rw [hm] at hob
    cases hob with
    | row h1 h2 h3 h4 h5 =>
      by_cases h0 : n = 0
      · left
        subst h0
        exact ⟨List.eq_nil_of_length_eq_zero hn, _, _, rfl⟩
      · right
        cases A with
        | none => have := h3 rfl; omega
        | some ad =>
          obtain ⟨hs, _⟩ := h5 ad rfl
          obtain ⟨bl, of_, sp⟩ := ad
          simp only at hs
          subst hs
          have hA1 : A' = some ⟨bl, of_, none⟩ := by
            rcases hA with h | h
            · simpa [Addr.add_lit] using h
            · omega
          exact ⟨bl, of_, c, by rw [hA1]; rfl, hm, by omega⟩
theorem row_F (hk : ∀ x, (encV x).length = k) (l : List α) : (Sort.flatK encV k l.toArray).size = (rws (fun x => scs (encV x)) l).length * k := by simp
theorem row_holds (hk : ∀ x, (encV x).length = k) {w0 w : World} {own0 S : Nat → Prop} {m : Mp} {t c : Nat} {ad : Addr} {l : List α} (M : Mem w0 own0 S [(0, .row .io t k (rws (fun x => scs (encV x)) l))] w m) (hm : m 0 = some (.row (some ad) c k)) :
    Sort.HoldsK encV k w ad.block ad.off l.toArray ∧ ad.block < w.heap.size := by
  obtain ⟨h1, h2, _⟩ := sort_holds M hm (row_F hk l) (fun i j hi hj => by
    have hil : i < l.length := by simpa using hi
    refine ⟨scs (encV l[i]), by simp [rws, hil], ?_⟩
    rw [flat_at hk l hil hj]
    have hjl : j < (encV l[i]).length := by rw [hk]; exact hj
    simp [scs, hjl])
  exact ⟨h1, h2⟩
theorem row_mem (hk : ∀ x, (encV x).length = k) (hp : ∀ x, ∀ v ∈ encV x, plain v = true) {w0 w : World} {own0 S : Nat → Prop} {m : Mp} {t c : Nat} {ad : Addr} {l l' : List α} (M : Mem w0 own0 S [(0, .row .io t k (rws (fun x => scs (encV x)) l))] w m) (hm : m 0 = some (.row (some ad) c k)) (hl : l'.length = l.length) (n : Nat) (os : Array Obj) :
    Mem w0 own0 S [(0, .row .io t k (rws (fun x => scs (encV x)) l'))] (Sort.grow (Sort.putRowK encV k (Sort.ahead w n) ad.block ad.off l'.toArray) os) m := by
  refine sort_mem M hm (row_F hk l') (by simpa using hl) (rws_all _ _ fun x => by simp [scs, hk]) (fun i r j p hi hj => ?_)
  have hil : i < l'.length := by have := (List.getElem?_eq_some_iff.1 hi).1; simpa using this
  have hr : r = scs (encV l'[i]) := by simp [rws, hil] at hi; exact hi.symm
  subst hr
  have hjl : j < (encV l'[i]).length := by have := (List.getElem?_eq_some_iff.1 hj).1; simpa [scs] using this
  have hjk : j < k := by rw [← hk l'[i]]; exact hjl
  rw [flat_at hk l' hil hjk]
  simp [scs, hjl] at hj
  exact ⟨hj.symm, hp _ _ (List.getElem_mem hjl)⟩
end
/-- What is known of a row's end may be forgotten. -/
theorem row_cut {w0 w : World} {own0 S : Nat → Prop} {m : Mp} {t k : Nat} {rows : List (List PV)} (M : Mem w0 own0 S [(0, .row .io t k rows)] w m) (n : Nat) : Mem w0 own0 S [(0, .row .io t k (rows.take n))] w m := by
  have hl : Pm.look [(0, OB.row .io t k rows)] 0 = some (.row .io t k rows) := rfl
  have hob := M.obs 0 _ hl
  have hbl : ∀ b, blockOf (m 0) (.row .io t k (rows.take n)) = some b → blockOf (m 0) (.row .io t k rows) = some b := fun b h => by
    cases hm : m 0 with
    | none => rw [hm] at h; cases h
    | some c => rw [hm] at h; cases c <;> exact h
  have hp' : [(0, OB.row .io t k (rows.take n))] = Pm.put [(0, OB.row .io t k rows)] 0 (.row .io t k (rows.take n)) := rfl
  rw [hp']
  have hk : ∀ b, b < w.heap.size → blockOf (m 0) (.row .io t k rows) ≠ some b → w.heap[b]? = w.heap[b]? := fun _ _ _ => rfl
  have g := Goes.put M (On.refl w) hl hbl hk
  refine M.put (On.refl w) hl hbl hk (fun _ _ _ _ h => by cases h) ?_
  have hob' := g.ob hob (fun _ _ => rfl)
  generalize m 0 = cm at hob'
  cases hob' with
  | row h1 h2 h3 h4 h5 =>
    refine .row (Nat.le_trans (List.length_take_le' _ _) h1) h2 h3 (fun r hr => h4 r (List.mem_of_mem_take hr)) (fun ad hA => ?_)
    obtain ⟨hs, hf, cells, c1, c2, c3⟩ := h5 ad hA
    refine ⟨hs, hf, cells, c1, c2, fun i r j p hi hj => c3 i r j p ?_ hj⟩
    rw [List.getElem?_take] at hi
    split at hi
    · exact hi
    · cases hi
/-! ### edges by their comparison -/
def edV (e : Ed) : List Value := [.int .i64 e.1, .int .i64 e.2]
theorem edV_len (e : Ed) : (edV e).length = 2 := rfl
theorem edV_plain (e : Ed) : ∀ v ∈ edV e, plain v = true := fun v hv => by simp [edV] at hv; rcases hv with rfl | rfl <;> rfl
theorem lt_cmpE (x y : Ed) : ltOf cmpE x y = decide (x.1 < y.1 ∨ (x.1 = y.1 ∧ x.2 < y.2)) := by
  unfold ltOf cmpE cmpI
  grind
theorem swo_cmpE : Sort.SWO (ltOf cmpE) where
  irrefl x := by rw [lt_cmpE]; simp
  trans x y z h1 h2 := by rw [lt_cmpE] at *; simp at *; omega
  ntrans x y z h1 h2 := by rw [lt_cmpE] at *; simp at *; omega
theorem tot_cmpE (x y : Ed) (h1 : ltOf cmpE x y = false) (h2 : ltOf cmpE y x = false) : x = y := by
  rw [lt_cmpE] at *
  simp at *
  exact Prod.ext (by omega) (by omega)
theorem mem_none (W : World) : True := trivial
theorem cmp_spec (x y : Ed) : SpecF Cb 72 [.ag [(.pv false (.sc (.int .i64 x.1))), (.pv false (.sc (.int .i64 x.2)))], .ag [(.pv false (.sc (.int .i64 y.1))), (.pv false (.sc (.int .i64 y.2)))]] [] ((.pv false (.sc (.int .i64 (cmpE x y))))) [] :=
  lim_spec progB Try.func72 (hasBody (by kernel_rfl)) (B.e72 Try.f72 Try.results72 x y)
theorem cmp_lays (blk off size : Nat) (w : World) : CmpLays Try.prog 72 #[] edV 2 cmpE blk off size w := by
  intro m os dk _ x y
  refine spec_quiet (C := Cb) (cmp_spec x y) _ (by rfl) (fun j t hj m' R U => ?_)
  have one : ∀ e : Ed, RepT (sortWorldK edV 2 w blk off m dk os) m' R U (.agg (edV e).toArray) (.ag [(.pv false (.sc (.int .i64 e.1))), (.pv false (.sc (.int .i64 e.2)))]) := fun e =>
    .ag (fun t ht => by simp at ht; rcases ht with rfl | rfl <;> rfl) rfl (fun j t hj => by
      match j with
      | 0 => cases hj; exact .pv (.sc rfl)
      | 1 => cases hj; exact .pv (.sc rfl)
      | j + 2 => simp at hj)
  match j with
  | 0 => cases hj; exact one x
  | 1 => cases hj; exact one y
  | j + 2 => simp at hj
theorem lo_same {m : Mp} {out : Hp} : Lo m out m := fun _ _ _ h _ => h
theorem tu_rep {w : World} {m : Mp} {R U : Nat → Prop} : RepT w m R U (.tuple #[]) (.tu []) := .tu rfl (fun j t hj => by simp at hj)
theorem edP_eq : edP = fun x => scs (edV x) := rfl
theorem sf_spec (l : List Ed) (hcz : l.length < 4611686018427387904) : SpecF C0 71 [.ref 0 0 l.length, .pv true (.cl 72 [])] [(0, .row .io 42 2 (rws edP l))] (.tu []) [(0, .row .io 42 2 (rws edP (sortE l)))] := by
  refine ⟨⟨Try.f71, Try.func71, by kernel_rfl, by kernel_rfl⟩, rfl, fun i ob h => ?_, fun w own0 S m vs M hsz hargs => ?_⟩
  · simp only [Pm.look] at h
    split at h
    · cases h; rfl
    · cases h
  · rw [edP_eq] at M ⊢
    have hv0 := hargs 0 _ rfl
    have hv1 := hargs 1 _ rfl
    obtain ⟨v0, v1, rfl⟩ : ∃ v0 v1, vs = #[v0, v1] := by
      have h2 : vs.size = 2 := hsz
      exact ⟨vs[0], vs[1], by apply Array.ext; · simp [h2]
                              · intro i h1 h3; have : i = 0 ∨ i = 1 := by omega
                                rcases this with rfl | rfl <;> rfl⟩
    have e0 : (#[v0, v1] : Array Value).getD 0 undef = v0 := rfl
    have e1 : (#[v0, v1] : Array Value).getD 1 undef = v1 := rfl
    rw [e0] at hv0
    rw [e1] at hv1
    have hcl : v1 = .func (.func 72) #[] #[] := by
      have := hv1.pvv
      cases this with
      | cl hs _ => rw [Array.eq_empty_of_size_eq_zero hs]
    subst hcl
    have hlen : (rws (fun x => scs (edV x)) l).length = l.length := by simp
    rw [← hlen] at hv0
    have eg : ∀ args w, (callFunc 72 args).run Try.prog w = .ok (.enter 72 args) w := enters_of Try.func72 (by kernel_rfl) rfl
    rcases row_start M hv0 with ⟨hnil, A, c, rfl⟩ | ⟨bl, of_, c, rfl, hm, hc⟩
    · have hl : l = [] := by simpa [rws] using hnil
      subst hl
      refine (AnyF.slices_SortFunc_none Try.laysSF A c _ w).mono ?_
      rintro e w' ⟨rfl, rfl⟩
      exact ⟨_, m, rfl, by rw [show sortE [] = [] by simp [sortE]]; exact M, tu_rep, lo_same⟩
    · obtain ⟨hH, hb⟩ := row_holds edV_len M hm
      rw [hlen]
      refine (AnyQ.slices_SortFunc_total Try.laysSF 2 (fun w => (tabOk 42 _ rfl).agg w) (fun w => (tabOk 42 _ rfl).size w) edV edV_len (fun x v hv => by simp [edV] at hv; rcases hv with rfl | rfl <;> rfl) cmpE swo_cmpE 72 #[] bl of_ c l.toArray w eg (cmp_lays _ _ _ _) hH hb (by simpa using hcz) tot_cmpE).mono ?_
      rintro e w' ⟨rfl, n, os, rfl⟩
      exact ⟨_, m, rfl, row_mem (l' := sortE l) edV_len edV_plain M hm (by simp [sortE]) n os, tu_rep, lo_same⟩
/-! ### whole numbers -/
def numV (x : Int) : List Value := [.int .i64 x]
theorem numV_len (x : Int) : (numV x).length = 1 := rfl
theorem numV_plain (x : Int) : ∀ v ∈ numV x, plain v = true := fun v hv => by simp [numV] at hv; subst hv; rfl
theorem numP_eq : numP .i64 = fun x => scs (numV x) := rfl
theorem flat1 (d : Array Int) {j : Nat} (hj : j < d.size) : (Sort.flatK numV 1 d)[j]! = .int .i64 d[j]! := by
  rw [Sort.get_flatK _ _ _ _ (by simpa using hj), Nat.div_one, Nat.mod_one]
  rfl
theorem holds1 {w : World} {b o : Nat} {d : Array Int} (h : Sort.HoldsK numV 1 w b o d) : Sort.Holds (Value.int .i64) w b o d := fun j hj => by
  have := h j (by simpa using hj)
  rw [flat1 d hj] at this
  exact this
theorem put1 (w : World) (b o : Nat) (d : Array Int) : Sort.putRow (Value.int .i64) w b o d = Sort.putRowK numV 1 w b o d := by
  unfold Sort.putRowK Sort.putRow
  congr 1
  funext c
  unfold Sort.putCells
  apply Array.ext
  · simp
  · intro k h1 h2
    simp only [Array.getElem_mapIdx, Sort.size_flatK, Nat.mul_one]
    by_cases hk : o ≤ k ∧ k < o + d.size
    · rw [if_pos hk, if_pos hk, flat1 d (by omega)]
      rfl
    · rw [if_neg hk, if_neg hk]
theorem one_arg {vs : Array Value} (h : vs.size = 1) : ∃ v, vs = #[v] := by
  refine ⟨vs[0], ?_⟩
  apply Array.ext
  · simp [h]
  · intro i h1 h3
    have : i = 0 := by omega
    subst this
    rfl
theorem row_pure {t k : Nat} {rows : List (List PV)} : ∀ i ob, Pm.look [(0, OB.row .io t k rows)] i = some ob → pureO ob = true := fun i ob h => by
  simp only [Pm.look] at h
  split at h
  · cases h; rfl
  · cases h
theorem si_spec (l : List Int) (hcz : l.length < 4611686018427387904) : SpecF C0 77 [.ref 0 0 l.length] [(0, .row .io 3 1 (rws (numP .i64) l))] (.tu []) [(0, .row .io 3 1 (rws (numP .i64) (sortI l)))] := by
  refine ⟨⟨Try.f77, Try.func77, by kernel_rfl, by kernel_rfl⟩, rfl, row_pure, fun w own0 S m vs M hsz hargs => ?_⟩
  rw [numP_eq] at M ⊢
  have hv0 := hargs 0 _ rfl
  obtain ⟨v0, rfl⟩ := one_arg hsz
  have e0 : (#[v0] : Array Value).getD 0 undef = v0 := rfl
  rw [e0] at hv0
  have hlen : (rws (fun x => scs (numV x)) l).length = l.length := by simp
  rw [← hlen] at hv0
  rcases row_start M hv0 with ⟨hnil, A, c, rfl⟩ | ⟨bl, of_, c, rfl, hm, hc⟩
  · have hl : l = [] := by simpa [rws] using hnil
    subst hl
    refine (Any.slices_Sort_int_none Try.laysSI A c w).mono ?_
    rintro e w' ⟨rfl, rfl⟩
    exact ⟨_, m, rfl, by rw [show sortI [] = [] by simp [sortI]]; exact M, tu_rep, lo_same⟩
  · obtain ⟨hH, hb⟩ := row_holds numV_len M hm
    rw [hlen]
    refine (Any.slices_Sort_int Try.laysSI bl of_ c l w (holds1 hH) hb hcz).mono ?_
    rintro e w' ⟨rfl, n, os, rfl⟩
    rw [put1]
    exact ⟨_, m, rfl, row_mem (l' := sortI l) numV_len numV_plain M hm (by simp [sortI]) n os, tu_rep, lo_same⟩
theorem cptA_snoc (x : Int) : ∀ (l : List Int) (p : Int), cptA p (l ++ [x]) = cptA p l ++ (if (p :: l).getLast (by simp) = x then [] else [x])
  | [], p => by
    simp only [List.nil_append, cptA, List.getLast_singleton]
    by_cases h : x = p
    · simp [h]
    · have h' : ¬ p = x := fun e => h e.symm
      simp [h, h']
  | y :: l, p => by
    simp only [List.cons_append, cptA]
    have e : (p :: y :: l).getLast (by simp) = (y :: l).getLast (by simp) := by simp
    rw [e]
    cases hy : decide (y = p)
    · simp [cptA_snoc x l y]
    · have : y = p := of_decide_eq_true hy
      subst this
      simp [cptA_snoc x l y]
theorem cptI_snoc (l : List Int) (x : Int) : cptI (l ++ [x]) = cptI l ++ (if l.getLast? = some x then [] else [x]) := by
  cases l with
  | nil => simp [cptI, cptA]
  | cons y l => simp only [List.cons_append, cptI, cptA_snoc, List.getLast?_eq_some_getLast (show (y :: l) ≠ [] by simp), Option.some.injEq]
theorem cpt_eq (zs : List Int) : Lib.compact zs = cptI zs := by
  have h : ∀ m, m ≤ zs.length → Lib.compactUpTo zs.toArray m = cptI (zs.take m) := by
    intro m
    induction m with
    | zero => intro _; rfl
    | succ m ih =>
      intro hm
      have hl : m < zs.length := by omega
      rw [List.take_succ_eq_append_getElem hl, cptI_snoc, ← ih (by omega)]
      unfold Lib.compactUpTo
      rw [List.range_succ, List.filter_append, List.map_append]
      congr 1
      have hlast : (zs.take m).getLast? = if m = 0 then none else zs[m - 1]? := by
        rw [List.getLast?_take]
        by_cases h0 : m = 0
        · simp [h0]
        · rw [if_neg h0, if_neg h0, List.getElem?_eq_getElem (by omega)]; rfl
      rw [hlast]
      by_cases h0 : m = 0
      · subst h0; simp [Lib.keeps, hl]
      · have hm1 : m - 1 < zs.length := by omega
        have hk : Lib.keeps zs.toArray m = !decide (zs[m - 1] = zs[m]) := by
          have e : (zs[m] = zs[m - 1]) = (zs[m - 1] = zs[m]) := propext ⟨Eq.symm, Eq.symm⟩
          simp [Lib.keeps, h0, hl, hm1, e]
        by_cases e : zs[m - 1] = zs[m]
        · simp [hk, e, h0, hm1]
        · simp [hk, e, h0, hm1, hl]
  simpa [Lib.compact] using h zs.length (Nat.le_refl _)
theorem cptA_len : ∀ (l : List Int) (p : Int), (cptA p l).length ≤ l.length
  | [], _ => Nat.le_refl _
  | x :: l, p => by
    have h1 := cptA_len l p
    have h2 := cptA_len l x
    simp only [cptA]
    cases decide (x = p) <;> simp <;> omega
theorem cptI_len (l : List Int) : (cptI l).length ≤ l.length := by
  cases l with
  | nil => exact Nat.le_refl _
  | cons x l => have := cptA_len l x; simp [cptI]; omega
theorem ci_spec (l : List Int) (hcz : l.length < 4611686018427387904) : SpecF C0 78 [.ref 0 0 l.length] [(0, .row .io 3 1 (rws (numP .i64) l))] (.ref 0 0 (cptI l).length) [(0, .row .io 3 1 (rws (numP .i64) (cptI l)))] := by
  refine ⟨⟨Try.f78, Try.func78, by kernel_rfl, by kernel_rfl⟩, rfl, row_pure, fun w own0 S m vs M hsz hargs => ?_⟩
  rw [numP_eq] at M ⊢
  have hv0 := hargs 0 _ rfl
  obtain ⟨v0, rfl⟩ := one_arg hsz
  have e0 : (#[v0] : Array Value).getD 0 undef = v0 := rfl
  rw [e0] at hv0
  have hlen : (rws (fun x => scs (numV x)) l).length = l.length := by simp
  rw [← hlen] at hv0
  have hcl := cptI_len l
  rcases row_start M hv0 with ⟨hnil, A, c, rfl⟩ | ⟨bl, of_, c, rfl, hm, hc⟩
  · have hl : l = [] := by simpa [rws] using hnil
    subst hl
    refine (Any.slices_Compact_int_empty Try.laysCI A c w).mono ?_
    rintro e w' ⟨rfl, rfl⟩
    exact ⟨_, m, rfl, M, hv0, lo_same⟩
  · obtain ⟨hH, hb⟩ := row_holds numV_len M hm
    rw [hlen] at hc ⊢
    refine (Any.slices_Compact_int Try.laysCI bl of_ c l w (holds1 hH) (by omega) hc).mono ?_
    rintro e w' ⟨rfl, n, rfl⟩
    rw [cpt_eq, put1, ← Sort.grow_empty (Sort.putRowK _ _ _ _ _ _)]
    have hM := row_cut (row_mem (l' := cptI l ++ List.replicate (l.length - (cptI l).length) 0) numV_len numV_plain M hm (by simp; omega) n #[]) (cptI l).length
    rw [rws_take, List.take_left] at hM
    refine ⟨_, m, rfl, hM, ?_, lo_same⟩
    exact RepT.ref (A := some ⟨bl, of_, none⟩) (off := 0) (c := c) hm (by omega) (.inl (by simp [Addr.add_lit]))
theorem no_pure : ∀ i ob, Pm.look ([] : Hp) i = some ob → pureO ob = true := fun i ob h => by cases h
theorem nl_val {w : World} {m : Mp} {R U : Nat → Prop} {v : Value} (h : RepT w m R U v .nl) : v = .slice none 0 0 := by cases h; rfl
theorem sf_nil : SpecF C0 71 [.nl, .pv true (.cl 72 [])] [] (.tu []) [] := by
  refine ⟨⟨Try.f71, Try.func71, by kernel_rfl, by kernel_rfl⟩, rfl, no_pure, fun w own0 S m vs M hsz hargs => ?_⟩
  have hv0 := hargs 0 _ rfl
  have hv1 := hargs 1 _ rfl
  obtain ⟨v0, v1, rfl⟩ : ∃ v0 v1, vs = #[v0, v1] := by
    have h2 : vs.size = 2 := hsz
    exact ⟨vs[0], vs[1], by apply Array.ext; · simp [h2]
                            · intro i h1 h3; have : i = 0 ∨ i = 1 := by omega
                              rcases this with rfl | rfl <;> rfl⟩
  have e0 : (#[v0, v1] : Array Value).getD 0 undef = v0 := rfl
  rw [e0] at hv0
  cases nl_val hv0
  refine (AnyF.slices_SortFunc_none Try.laysSF none 0 v1 w).mono ?_
  rintro e w' ⟨rfl, rfl⟩
  exact ⟨_, m, rfl, M, tu_rep, lo_same⟩
theorem si_nil : SpecF C0 77 [.nl] [] (.tu []) [] := by
  refine ⟨⟨Try.f77, Try.func77, by kernel_rfl, by kernel_rfl⟩, rfl, no_pure, fun w own0 S m vs M hsz hargs => ?_⟩
  have hv0 := hargs 0 _ rfl
  obtain ⟨v0, rfl⟩ := one_arg hsz
  have e0 : (#[v0] : Array Value).getD 0 undef = v0 := rfl
  rw [e0] at hv0
  cases nl_val hv0
  refine (Any.slices_Sort_int_none Try.laysSI none 0 w).mono ?_
  rintro e w' ⟨rfl, rfl⟩
  exact ⟨_, m, rfl, M, tu_rep, lo_same⟩
theorem ci_nil : SpecF C0 78 [.nl] [] .nl [] := by
  refine ⟨⟨Try.f78, Try.func78, by kernel_rfl, by kernel_rfl⟩, rfl, no_pure, fun w own0 S m vs M hsz hargs => ?_⟩
  have hv0 := hargs 0 _ rfl
  obtain ⟨v0, rfl⟩ := one_arg hsz
  have e0 : (#[v0] : Array Value).getD 0 undef = v0 := rfl
  rw [e0] at hv0
  cases nl_val hv0
  refine (Any.slices_Compact_int_empty Try.laysCI none 0 w).mono ?_
  rintro e w' ⟨rfl, rfl⟩
  exact ⟨_, m, rfl, M, .nl, lo_same⟩
theorem ext_ok (f : FuncId) (ts : List TV) (hp : Hp) (r : TV) (out : Hp) (h : ext0 f ts hp = some (r, out)) : SpecF C0 f ts hp r out := by
  unfold ext0 at h
  cases h1 : f == 71 with
  | true =>
    rw [h1] at h
    rw [eq_of_beq h1]
    rcases extRow_some h with ⟨rfl, rfl, rfl, rfl⟩ | ⟨l, hl, rfl, rfl, rfl, rfl⟩
    · exact sf_nil
    · exact sf_spec l hl
  | false =>
    cases h2 : f == 77 with
    | true =>
      rw [h1, h2] at h
      rw [eq_of_beq h2]
      rcases extRow_some h with ⟨rfl, rfl, rfl, rfl⟩ | ⟨l, hl, rfl, rfl, rfl, rfl⟩
      · exact si_nil
      · exact si_spec l hl
    | false =>
      cases h3 : f == 78 with
      | true =>
        rw [h1, h2, h3] at h
        rw [eq_of_beq h3]
        rcases extRow_some h with ⟨rfl, rfl, rfl, rfl⟩ | ⟨l, hl, rfl, rfl, rfl, rfl⟩
        · exact ci_nil
        · exact ci_spec l hl
      | false =>
        rw [h1, h2, h3] at h
        cases h
theorem prog_ok : Prog C0 := ⟨fun t i h => tabOk t i h, mixed, fun f fn h => by simpa using funcs_all names_ok h, fun f fn c h hc => by have := funcs_all dsts_ok h; rw [hc] at this; exact this, ext_ok⟩
end Go.Proofs.Ytopoaemlbnkhgaa
