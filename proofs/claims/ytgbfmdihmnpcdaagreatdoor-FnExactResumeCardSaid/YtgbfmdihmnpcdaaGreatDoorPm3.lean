/- The pure machine, part 3: an evaluator of the translation's code over plain data, and that it is sound. -/
import Derived.Test.YtgbfmdihmnpcdaaGreatDoorPm2
set_option linter.unusedVariables false
set_option linter.unusedSimpArgs false
namespace Go.Pm
open Go
theorem reach_ok (hp : Hp) : ∀ (n : Nat) (l acc : List Nat), acc.Nodup → (∀ o ∈ acc, ∃ x, look hp o = some x) → (reach hp n l acc).Nodup ∧ ∀ o ∈ reach hp n l acc, ∃ x, look hp o = some x := by
 intro n
 induction n with
 | zero => intro l acc h1 h2; exact ⟨by simpa [reach] using h1, by simpa [reach] using h2⟩
 | succ n ih =>
  intro l acc h1 h2
  cases l with
  | nil => exact ⟨by simpa [reach] using h1, by simpa [reach] using h2⟩
  | cons o l =>
   simp only [reach]
   split
   · exact ih l acc h1 h2
   · rename_i hc
     have hn : (acc ++ [o]).Nodup := by
      rw [List.nodup_append]
      refine ⟨h1, by simp, fun a ha b hb => ?_⟩
      simp at hb
      subst hb
      intro e
      subst e
      exact hc (by simpa using ha)
     have hd : ∀ x, look hp o = some x → ∀ q ∈ acc ++ [o], ∃ x, look hp q = some x := by
      intro x hx q hq
      rcases List.mem_append.1 hq with h | h
      · exact h2 q h
      · simp at h; subst h; exact ⟨x, hx⟩
     split
     · rename_i cs hl; exact ih _ _ hn (hd _ hl)
     · exact ih l acc h1 h2
     · rename_i x _ _ hl; exact ih l _ hn (hd _ hl)
     · exact ih l acc h1 h2
theorem pos_get : ∀ {L : List Nat}, L.Nodup → ∀ {q o : Nat}, L[q]? = some o → pos L o = some q := by
 intro L
 induction L with
 | nil => intro _ q o h; simp at h
 | cons x l ih =>
  intro hn q o hq
  rw [List.nodup_cons] at hn
  simp only [pos]
  cases q with
  | zero => simp at hq; rw [if_pos hq.symm]
  | succ q =>
   have hq' : l[q]? = some o := by simpa using hq
   rw [if_neg (fun (e : o = x) => hn.1 (e ▸ List.mem_of_getElem? hq')), ih hn.2 hq']
theorem pureL_get {l : List TV} (h : pure?.pureL l = true) : ∀ {j : Nat} {t : TV}, l[j]? = some t → pure? t = true := by
 induction l with
 | nil => intro j t hj; simp at hj
 | cons x l ih =>
  simp only [pure?.pureL, Bool.and_eq_true] at h
  intro j t hj
  cases j with
  | zero => simp at hj; rw [← hj]; exact h.1
  | succ j => exact ih h.2 (by simpa using hj)
theorem RepT.clean [Dd] {w : World} {m : Mp} {R R' U : Nat → Prop} {v : Value} {t : TV} (h : RepT w m R U v t) : pure? t = true → RepT w m R' U v t := by
 induction h with
 | @pv v b p h => intro hp; cases b
                  · exact .pv h
                  · simp [pure?] at hp
 | ud h => exact fun _ => .ud h
 | nl => exact fun _ => .nl
 | ag hi hs _ ih => exact fun hp => .ag hi hs (fun j t hj => ih j t hj (pureL_get (by simpa [pure?] using hp) hj))
 | ar hs h => exact fun _ => .ar hs h
 | tu hs _ ih => exact fun hp => .tu hs (fun j t hj => ih j t hj (pureL_get (by simpa [pure?] using hp) hj))
 | ref h a b => exact fun _ => .ref h a b
 | bp h => exact fun _ => .bp h
 | ep h => exact fun _ => .ep h
 | nr h a b c => exact fun _ => .nr h a b c
 | np h a => exact fun _ => .np h a
 | ap h => exact fun _ => .ap h
 | @dv v s rows w1 B h k =>
  intro hp
  cases s with
  | none => simp [pure?] at hp
  | some o => exact .dv (s := some o) h k
 | @dp s ad cells w1 B u h hs hb hc k =>
  intro hp
  cases s with
  | none => simp [pure?] at hp
  | some o => exact .dp (s := some o) u h hs hb hc k
 | rp => intro hp; simp [pure?] at hp
 | fn hs _ ih => exact fun hp => .fn hs (fun j t hj => ih j t hj (pureL_get (by simpa [pure?] using hp) hj))
 | mv hs _ ih => exact fun hp => .mv hs (fun j t hj => ih j t hj (pureL_get (by simpa [pure?] using hp) hj))
 | er => exact fun _ => .er
def pureO : OB → Bool
 | .box cs => pure?.pureL cs
 | _ => true
theorem ObOk.clean [Dd] {w : World} {m : Mp} {R R' U : Nat → Prop} {cm : Option CM} {ob : OB} (h : ObOk w m R U cm ob) (hp : pureO ob = true) : ObOk w m R' U cm ob := by
 cases h with
 | box hi hc hs ht => exact .box hi hc hs (fun j t hj => (ht j t hj).clean (pureL_get hp hj))
 | arr hc hs ht => exact .arr hc hs ht
 | row h1 h2 h3 h4 h5 => exact .row h1 h2 h3 h4 h5
 | tree h1 h2 h3 h4 => exact .tree h1 h2 h3 h4
 | dat h => exact .dat h
 | dead => exact .dead
theorem ObOk.back {w : World} {m : Mp} {R U : Nat → Prop} {cm : Option CM} {ob : OB} {x : Option OB} (hx : ∀ st e k rows, x = some (.row st e k rows) → st ≠ .fz) (hx' : ∀ st rows, x = some (.tree st rows) → st ≠ .fz) (h : ObOk w m R U cm ob) : ObOk w m R U cm (back x ob) := by
 unfold Pm.back
 split
 · rename_i st e0 k0 r0 e k rows
   cases h with
   | row h1 h2 h3 h4 h5 =>
    refine .row h1 h2 h3 h4 (fun ad hA => ?_)
    obtain ⟨hs, hf, r⟩ := h5 ad hA
    exact ⟨hs, fun hz => absurd hz (hx _ _ _ _ rfl), r⟩
 · cases h with
   | tree h1 h2 h3 h4 => exact .tree (hx' _ _ rfl) h2 h3 h4
 · exact h
theorem Blk_back {c : Option CM} {x : Option OB} {ob : OB} {b : Nat} (h : Blk c (back x ob) b) : Blk c ob b := by
 unfold back at h
 split at h
 · rename_i st e0 k0 r0 e k rows
   cases c with
   | none => simp [Blk] at h
   | some c => cases c <;> cases st <;> simp [Blk] at h ⊢ <;> exact h
 · cases c with
   | none => simp [Blk] at h
   | some c => cases c <;> simp [Blk] at h ⊢ <;> exact h
 · exact h
theorem back_own {x : Option OB} {ob : OB} (h : (back x ob).mine = true) : (∃ y, x = some y ∧ y.mine = true ∧ ∀ c b, Blk c (back x ob) b → Blk c y b) ∨ (back x ob = ob ∧ ob.mine = true) := by
 unfold back at *
 split at h
 · rename_i st e0 k0 r0 e k rows
   cases st <;> first | (cases h; done) | skip
   exact .inl ⟨_, rfl, rfl, fun c b hb => by cases c with
    | none => simp [Blk] at hb
    | some c => cases c <;> simp [Blk] at hb ⊢ <;> exact hb⟩
 · rename_i st r0 rows
   cases st <;> first | (cases h; done) | skip
   exact .inl ⟨_, rfl, rfl, fun c b hb => by cases c with
    | none => simp [Blk] at hb
    | some c => cases c <;> simp [Blk] at hb ⊢ <;> exact hb⟩
 · rename_i h1 h2
   exact .inr ⟨rfl, h⟩
def retO (hp out : Hp) (g : Nat → Option Nat) (o i : Nat) : OB := match look out i with
 | some ob => back (look hp o) (renO g ob)
 | none => .dead
theorem look_retH [Dd] {hp out : Hp} {g : Nat → Option Nat} {o : Nat} : ∀ {L : List Nat} {i : Nat} {acc : Hp}, L.Nodup → look (retH hp out g L i acc) o = match pos L o with
    | some q => some (retO hp out g o (i + q))
    | none => look acc o := by
 intro L
 induction L with
 | nil => intro i acc _; rfl
 | cons x l ih =>
  intro i acc hn
  rw [List.nodup_cons] at hn
  simp only [retH]
  rw [ih hn.2]
  simp only [pos]
  by_cases e : o = x
  · subst e
    have : pos l o = none := by
     cases h : pos l o with
     | none => rfl
     | some q => exact absurd (pos_of_mem h) hn.1
    rw [this, if_pos rfl]
    simp only [look_put_same, retO, Nat.add_zero]
    cases look out i <;> rfl
  · rw [if_neg e]
    cases h : pos l o with
    | none => simp [look_put_other _ _ e]
    | some q => simp; congr 1; omega
theorem Blk_up (u : Bool) (c : Option CM) (ob : OB) : Blk c (upO u ob) = Blk c ob := by
 cases ob with
 | row st e k rows =>
  cases c with
  | none => cases u <;> cases st <;> rfl
  | some c => cases c <;> cases u <;> cases st <;> rfl
 | tree st rows =>
  cases c with
  | none => cases u <;> cases st <;> rfl
  | some c => cases c <;> cases u <;> cases st <;> rfl
 | _ => rfl
theorem ObOk.up {w : World} {m : Mp} {R U : Nat → Prop} {u : Bool} {cm : Option CM} {ob : OB} (h : ObOk w m R U cm ob) : ObOk w m R U cm (upO u ob) := by
 cases h with
 | @row A c k e st rows h1 h2 h3 h4 h5 =>
  refine .row h1 h2 h3 h4 (fun ad hA => ?_)
  obtain ⟨hs, hf, r⟩ := h5 ad hA
  exact ⟨hs, fun h => hf (by cases u <;> cases st <;> first | rfl | cases h), r⟩
 | box a b c d => exact .box a b c d
 | arr a b c => exact .arr a b c
 | @tree g st rows h1 h2 h3 h4 => exact .tree (by cases u <;> cases st <;> first | exact absurd rfl h1 | simp) h2 h3 h4
 | dat h => exact .dat h
 | dead => exact .dead
theorem mine_up {u : Bool} {ob : OB} (h : (upO u ob).mine = true) : ob.mine = true ∨ u = true := by
 cases ob with
 | row st e k rows => cases u <;> cases st <;> simp [upO, OB.mine] at h ⊢
 | tree st rows => cases u <;> cases st <;> simp [upO, OB.mine] at h ⊢
 | _ => exact .inl h
theorem mines_get {hp out : Hp} : ∀ {L : List Nat} {k q o : Nat}, mines hp out L k = true → L[q]? = some o → (∃ x, look hp o = some x ∧ x.mine = true) ∨ ∃ cs cs', look hp o = some (.box cs) ∧ look out (k + q) = some (.box cs') := by
 intro L
 induction L with
 | nil => intro k q o _ h; simp at h
 | cons y l ih =>
  intro k q o h ho
  simp only [mines, Bool.and_eq_true] at h
  cases q with
  | zero =>
   have ho : y = o := by simpa using ho
   subst ho
   have h1 := h.1
   split at h1
   · exact .inl ⟨_, by assumption, rfl⟩
   · exact .inl ⟨_, by assumption, rfl⟩
   · split at h1
     · exact .inr ⟨_, _, by assumption, by assumption⟩
     · cases h1
   · cases h1
  | succ q =>
   have := ih h.2 (q := q) (by simpa using ho)
   rwa [show k + 1 + q = k + (q + 1) by omega] at this
theorem newH_ok [Dd] {u : Bool} {g : Nat → Option Nat} : ∀ {out acc hp' : Hp}, newH u g out acc = some hp' →
    (∀ (j : Nat) (ob : OB), look hp' j = some ob → look acc j = some ob ∨ (look acc j = none ∧ ∃ i ob', 16 ≤ i ∧ g i = some j ∧ look out i = some ob' ∧ ob = upO u (renO g ob'))) ∧
    (∀ (i : Nat) (ob' : OB), 16 ≤ i → look out i = some ob' → ∃ j, g i = some j ∧ look acc j = none ∧ look hp' j = some (upO u (renO g ob'))) ∧
    (∀ (j : Nat) (x : OB), look acc j = some x → look hp' j = some x) := by
 intro out
 induction out with
 | nil => intro acc hp' h; cases h; exact ⟨fun j ob h => .inl h, fun i ob' _ h => (by simp [look] at h), fun j x h => h⟩
 | cons y l ih =>
  obtain ⟨i0, ob0⟩ := y
  intro acc hp' h
  simp only [newH] at h
  split at h
  · rename_i hlt
    obtain ⟨a, b, c⟩ := ih h
    refine ⟨fun j ob hj => ?_, fun i ob' hi hl => ?_, c⟩
    · rcases a j ob hj with h1 | ⟨h1, i, ob', h2, h3, h4, h5⟩
      · exact .inl h1
      · exact .inr ⟨h1, i, ob', h2, h3, by simp only [look]; rw [if_neg (by omega)]; exact h4, h5⟩
    · simp only [look] at hl
      rw [if_neg (by omega)] at hl
      exact b i ob' hi hl
  · rename_i hge
    split at h
    · rename_i j0 hg
      split at h
      · rename_i hn
        obtain ⟨a, b, c⟩ := ih h
        refine ⟨fun j ob hj => ?_, fun i ob' hi hl => ?_, fun j x hj => ?_⟩
        · rcases a j ob hj with h1 | ⟨h1, i, ob', h2, h3, h4, h5⟩
          · rw [look_put] at h1
            split at h1
            · rename_i e
              subst e
              cases h1
              exact .inr ⟨hn, i0, ob0, by omega, hg, by simp [look], rfl⟩
            · exact .inl h1
          · rw [look_put] at h1
            split at h1
            · cases h1
            · rename_i e
              refine .inr ⟨h1, i, ob', h2, h3, ?_, h5⟩
              simp only [look]
              rw [if_neg (fun e' => e (by rw [e'] at h3; rw [hg] at h3; cases h3; rfl))]
              exact h4
        · simp only [look] at hl
          split at hl
          · rename_i e
            subst e
            cases hl
            exact ⟨j0, hg, hn, c j0 _ (look_put_same _ _ _)⟩
          · obtain ⟨j, h1, h2, h3⟩ := b i ob' hi hl
            rw [look_put] at h2
            split at h2
            · cases h2
            · exact ⟨j, h1, h2, h3⟩
        · refine c j x ?_
          rw [look_put_other _ _ (fun e => by rw [e, hn] at hj; cases hj)]
          exact hj
      · cases h
    · cases h
theorem gname_inj {d : Nat} {rs : List Nat} {i i' j : Nat} (hi : 16 ≤ i) (hi' : 16 ≤ i') (h : gname d rs i = some j) (h' : gname d rs i' = some j) : i = i' := by
 unfold gname at h h'
 rw [if_neg (by omega)] at h h'
 split at h
 · cases h
   split at h'
   · simp only [Option.some.injEq, nid] at h'
     omega
   · split at h'
     · simp only [Option.some.injEq, nid] at h'
       omega
     · cases h'
 · split at h
   · cases h
     split at h'
     · simp only [Option.some.injEq, nid] at h'
       omega
     · split at h'
       · simp only [Option.some.injEq] at h'
         omega
       · cases h'
   · cases h
theorem gname_ge {d : Nat} {rs : List Nat} {i j : Nat} (hi : 16 ≤ i) (h : gname d rs i = some j) : 16 ≤ j := by
 unfold gname at h
 rw [if_neg (by omega)] at h
 split at h
 · cases h; simp only [nid]; omega
 · split at h
   · cases h; omega
   · cases h
open Classical in
noncomputable def mback (d : Nat) (rs : List Nat) (m mo : Mp) : Mp := fun o => match m o with
 | some c => some c
 | none => if h : ∃ i, 16 ≤ i ∧ gname d rs i = some o then mo h.choose else none
theorem mback_old {d : Nat} {rs : List Nat} {m mo : Mp} {o : Nat} {c : CM} (h : m o = some c) : mback d rs m mo o = some c := by simp [mback, h]
theorem mback_new [Dd] {d : Nat} {rs : List Nat} {m mo : Mp} {o i : Nat} (h : m o = none) (hi : 16 ≤ i) (hg : gname d rs i = some o) : mback d rs m mo o = mo i := by
 have hex : ∃ i, 16 ≤ i ∧ gname d rs i = some o := ⟨i, hi, hg⟩
 have := gname_inj hex.choose_spec.1 hi hex.choose_spec.2 hg
 simp only [mback, h]
 rw [dif_pos hex, this]
theorem mback_none {d : Nat} {rs : List Nat} {m mo : Mp} {o : Nat} (h : m o = none) (hn : ¬ ∃ i, 16 ≤ i ∧ gname d rs i = some o) : mback d rs m mo o = none := by
 simp only [mback, h]
 rw [dif_neg hn]
theorem givable_get {hp : Hp} : ∀ {L : List Nat} {o : Nat}, givable hp L = true → o ∈ L → ∃ x, look hp o = some x ∧ (∀ st e k rows, x = .row st e k rows → st ≠ .fz) ∧ x ≠ .dead := by
 intro L
 induction L with
 | nil => intro o _ h; cases h
 | cons y l ih =>
  intro o h ho
  simp only [givable, Bool.and_eq_true] at h
  rcases List.mem_cons.1 ho with rfl | ho
  · have h1 := h.1
    split at h1
    · rename_i cs hl; exact ⟨_, hl, fun _ _ _ _ h => (by cases h), by simp⟩
    · rename_i ps hl; exact ⟨_, hl, fun _ _ _ _ h => (by cases h), by simp⟩
    · rename_i st e k rows hl; exact ⟨_, hl, fun _ _ _ _ h => (by cases h; simpa using h1), by simp⟩
    · rename_i cl hl; exact ⟨_, hl, fun _ _ _ _ h => (by cases h), by simp⟩
    · rename_i st rows hl; exact ⟨_, hl, fun _ _ _ _ h => (by cases h), by simp⟩
    · cases h1
  · exact ih h.2 ho
section
variable {w0 : World} {own0 S : Nat → Prop} {hp hp' out : Hp} {w w' : World} {m mo : Mp} {rs : List Nat} {d : Nat}
theorem ob_some {R U : Nat → Prop} {cm : Option CM} {ob : OB} (h : ObOk w m R U cm ob) (hd : ob ≠ .dead) : ∃ c, cm = some c := by
 cases h with
 | dead => exact absurd rfl hd
 | _ => exact ⟨_, rfl⟩
theorem back_ok [Dd] (M : Mem w0 own0 S hp w m) (hn : rs.Nodup) (hgv : givable hp rs = true) (h16 : rs.length ≤ 16)
    (Mr : Mem w (Own (mpc m rs) (hpc hp rs)) (UU w0 S hp w m) out w' mo) (hio : ∀ i, i < 16 → ∀ c, mpc m rs i = some c → look out i ≠ none → mo i = some c)
    (hpo : ∀ i ob, look out i = some ob → pureO ob = true) {u : Bool} (hup : u = true → mines hp out rs 0 = true) (hnew : newH u (gname d rs) out (retH hp out (gname d rs) rs 0 hp) = some hp') :
    ∃ m', Mem w0 own0 S hp' w' m' ∧ Goes hp w m hp' w' m' ∧ ∀ v r, RepT w' mo (RR out w' mo) (UU w (UU w0 S hp w m) out w' mo) v r → pure? r = true → RepT w' m' (RR hp' w' m') (UU w0 S hp' w' m') v (ren (gname d rs) r) := by
 obtain ⟨n1, n2, n3⟩ := newH_ok hnew
 have hret : ∀ o, look (retH hp out (gname d rs) rs 0 hp) o = match pos rs o with
  | some q => some (retO hp out (gname d rs) o q)
  | none => look hp o := by
  intro o
  rw [look_retH hn]
  cases pos rs o with
  | none => rfl
  | some q => simp
 have hpos : ∀ o q, pos rs o = some q → ∃ x c, look hp o = some x ∧ (∀ st e k rows, x = .row st e k rows → st ≠ .fz) ∧ m o = some c ∧ mpc m rs q = some c := by
  intro o q hq
  obtain ⟨x, h1, h2, h3⟩ := givable_get hgv (pos_of_mem hq)
  obtain ⟨c, hc⟩ := ob_some (M.obs o x h1) h3
  exact ⟨x, c, h1, h2, hc, by rw [mpc_eq (pos_of_mem hq) hq]; exact hc⟩
 have hcases : ∀ o ob, look hp' o = some ob → (pos rs o = none ∧ look hp o = some ob) ∨ (∃ q, pos rs o = some q ∧ ob = retO hp out (gname d rs) o q) ∨
     (look hp o = none ∧ ∃ i ob', 16 ≤ i ∧ gname d rs i = some o ∧ look out i = some ob' ∧ ob = upO u (renO (gname d rs) ob')) := by
  intro o ob ho
  rcases n1 o ob ho with h | ⟨h, i, ob', h2⟩
  · rw [hret] at h
    cases hq : pos rs o with
    | none => rw [hq] at h; exact .inl ⟨rfl, h⟩
    | some q => rw [hq] at h; cases h; exact .inr (.inl ⟨q, rfl, rfl⟩)
  · rw [hret] at h
    cases hq : pos rs o with
    | none => rw [hq] at h; exact .inr (.inr ⟨h, i, ob', h2⟩)
    | some q => rw [hq] at h; cases h
 have hold : ∀ o x, look hp o = some x → ∃ y, look hp' o = some y := by
  intro o x hx
  cases hq : pos rs o with
  | none => exact ⟨x, n3 o x (by rw [hret, hq]; exact hx)⟩
  | some q => exact ⟨_, n3 o _ (by rw [hret, hq])⟩
 let m' := mback d rs m mo
 have hsrc : ∀ o ob b, look hp' o = some ob → Blk (m' o) ob b → (pos rs o = none ∧ look hp o = some ob ∧ m' o = m o ∧ Blk (m o) ob b) ∨
     (∃ i y, look out i = some y ∧ mo i = m' o ∧ Blk (mo i) y b ∧ gname d rs i = some o) := by
  intro o ob b ho hb
  rcases hcases o ob ho with ⟨h1, h2⟩ | ⟨q, h1, h2⟩ | ⟨h1, i, y, h2, h3, h4, h5⟩
  · have e : m' o = m o := by
      cases hm : m o with
      | some c => exact mback_old hm
      | none =>
       by_cases hex : ∃ i, 16 ≤ i ∧ gname d rs i = some o
       · obtain ⟨i, hi, hg⟩ := hex
         show mback d rs m mo o = none
         rw [mback_new hm hi hg]
         cases hl : look out i with
         | none => exact Mr.dom i hl
         | some y =>
          obtain ⟨j, a, b', _⟩ := n2 i y hi hl
          rw [hg] at a
          cases a
          rw [hret, h1, h2] at b'
          cases b'
       · exact mback_none hm hex
    exact .inl ⟨h1, h2, e, by rw [← e]; exact hb⟩
  · obtain ⟨x, c, g1, g2, g3, g4⟩ := hpos o q h1
    subst h2
    unfold retO at hb
    cases hl : look out q with
    | none => rw [hl] at hb; have e : m' o = some c := mback_old g3; rw [e] at hb; cases c <;> simp [Blk] at hb
    | some y =>
     rw [hl] at hb
     have e := hio q (by have := (pos_lt h1).1; omega) c g4 (by rw [hl]; simp)
     have e' : m' o = some c := mback_old g3
     rw [e'] at hb
     have hb' := Blk_back hb
     rw [Blk_ren] at hb'
     refine .inr ⟨q, y, hl, by rw [e, e'], by rw [e]; exact hb', ?_⟩
     unfold gname
     rw [if_pos (by have := (pos_lt h1).1; omega)]
     exact (pos_lt h1).2
  · have e : m' o = mo i := mback_new (M.dom o h1) h2 h3
    subst h5
    rw [e, Blk_up, Blk_ren] at hb
    exact .inr ⟨i, y, h4, e.symm, hb, h3⟩
 have hown : ∀ b, Own m' hp' b → (Own m hp b ∧ b < w.heap.size) ∨ (Own mo out b) := by
  intro b ⟨o, ob, h1, h2⟩
  rcases hsrc o ob b h1 h2 with ⟨_, a2, _, a3⟩ | ⟨i, y, a1, a2, a3, _⟩
  · exact .inl ⟨⟨o, ob, a2, a3⟩, (M.old b ⟨o, ob, a2, a3⟩).1⟩
  · exact .inr ⟨i, y, a1, a3⟩
 have hgo : Goes hp w m hp' w' m' := by
  refine ⟨⟨Mr.fr.os, Mr.fr.tape, Mr.fr.output, Mr.fr.size, Mr.fr.drawn⟩, fun o c h => mback_old h, fun b hb hno => Mr.fr.block b hb (fun h => hno (own_hpc' h)), fun b hb => ?_, fun i hi hl => ?_⟩
  · rcases hown b hb with ⟨h1, h2⟩ | h
    · exact ⟨.inl h1, Nat.lt_of_lt_of_le h2 Mr.fr.size⟩
    · obtain ⟨h1, h2⟩ := Mr.old b h
      refine ⟨?_, h1⟩
      rcases h2 with h2 | h2
      · exact .inl (own_hpc' h2)
      · exact .inr h2
  · cases hx : look hp' i with
    | none => rfl
    | some ob =>
     rcases hcases i ob hx with ⟨_, h2⟩ | ⟨q, h1, _⟩ | ⟨_, i', y, h2, h3, _⟩
     · rw [hl] at h2; cases h2
     · obtain ⟨x, _, g1, _⟩ := hpos i q h1; rw [hl] at g1; cases g1
     · have := gname_ge h2 h3; omega
 have hU : ∀ b, UU w (UU w0 S hp w m) out w' mo b → UU w0 S hp' w' m' b := by
  intro b ⟨⟨h1, h2⟩, h3⟩
  refine ⟨⟨h1, fun ho => ?_⟩, ?_⟩
  · rcases hown b ho with ⟨a1, a2⟩ | a
    · rcases h3 with h3 | h3
      · exact h3.1.2 a1
      · omega
    · exact h2 a
  · rcases h3 with h3 | h3
    · exact h3.2.imp id fun h' => ⟨h'.1, h'.2.of_block (Mr.fr.block b h3.1.1 fun h => h3.1.2 (own_hpc' h))⟩
    · exact .inr ⟨Nat.le_trans M.fr.size h3.1, h3.2⟩
 have hm : ∀ i j c, gname d rs i = some j → mo i = some c → m' j = some c := by
  intro i j c hg hc
  have hlo : ∃ y, look out i = some y := by
   cases hl : look out i with
   | some y => exact ⟨y, rfl⟩
   | none => rw [Mr.dom i hl] at hc; cases hc
  obtain ⟨y, hy⟩ := hlo
  by_cases hi : i < 16
  · unfold gname at hg
    rw [if_pos hi] at hg
    have hq := pos_get hn hg
    obtain ⟨x, c0, g1, g2, g3, g4⟩ := hpos j i hq
    have := hio i hi c0 g4 (by rw [hy]; simp)
    rw [hc] at this
    cases this
    exact mback_old g3
  · obtain ⟨j', a1, a2, _⟩ := n2 i y (by omega) hy
    rw [hg] at a1
    cases a1
    have : look hp j = none := by
     rw [hret] at a2
     cases hq : pos rs j with
     | none => rw [hq] at a2; exact a2
     | some q => rw [hq] at a2; cases a2
    show mback d rs m mo j = some c
    rw [mback_new (M.dom j this) (by omega) hg]
    exact hc
 have hsep0 : ∀ o o' ob x b, pos rs o = none → look hp o = some ob → Blk (m o) ob b → look out o' = some x → Blk (mo o') x b → False := by
  intro o o' ob x b h1 h2 h3 h4 h5
  rcases (Mr.old b ⟨o', x, h4, h5⟩).2 with h | h
  · obtain ⟨o2, y, a1, a2, a3⟩ := own_hpc h
    have := M.sep o o2 ob y b h2 a2 h3 a3
    subst this
    obtain ⟨q, hq⟩ := pos_mem a1
    rw [h1] at hq; cases hq
  · have := (M.old b ⟨o, ob, h2, h3⟩).1
    omega
 refine ⟨m', M.goes hgo ?_ ?_ ?_ ?_, hgo, fun v r hv hr => (hv.clean (R' := UU w (UU w0 S hp w m) out w' mo) hr).ren hm (fun b h => (hU b h).1) hU⟩
 · intro o ho
   have hmo : m o = none := by
    cases hl : look hp o with
    | none => exact M.dom o hl
    | some x => obtain ⟨y, hy⟩ := hold o x hl; rw [ho] at hy; cases hy
   by_cases hex : ∃ i, 16 ≤ i ∧ gname d rs i = some o
   · obtain ⟨i, hi, hg⟩ := hex
     show mback d rs m mo o = none
     rw [mback_new hmo hi hg]
     cases hl : look out i with
     | none => exact Mr.dom i hl
     | some y =>
      obtain ⟨j, a, _, c⟩ := n2 i y hi hl
      rw [hg] at a
      cases a
      rw [ho] at c; cases c
   · exact mback_none hmo hex
 · intro o o' ob ob' b h1 h2 h3 h4
   rcases hsrc o ob b h1 h3 with ⟨a1, a2, _, a3⟩ | ⟨i, y, a1, a2, a3, a4⟩
   · rcases hsrc o' ob' b h2 h4 with ⟨b1, b2, _, b3⟩ | ⟨i', y', b1, b2, b3, b4⟩
     · exact M.sep o o' ob ob' b a2 b2 a3 b3
     · exact (hsep0 o i' ob y' b a1 a2 a3 b1 b3).elim
   · rcases hsrc o' ob' b h2 h4 with ⟨b1, b2, _, b3⟩ | ⟨i', y', b1, b2, b3, b4⟩
     · exact (hsep0 o' i ob' y b b1 b2 b3 a1 a3).elim
     · have := Mr.sep i i' y y' b a1 b1 a3 b3
       subst this
       rw [a4] at b4
       cases b4; rfl
 · intro o ob b h1 hmi h2
   rcases hcases o _ h1 with ⟨a1, a2⟩ | ⟨q, a1, a2⟩ | ⟨a1, i, y, a2, a3, a4, a5⟩
   · rcases hsrc o _ b h1 h2 with ⟨_, _, _, a3⟩ | ⟨i, y, b1, b2, b3, b4⟩
     · exact M.nio o ob b a2 hmi a3
     · obtain ⟨h1', h2'⟩ := Mr.old b ⟨i, y, b1, b3⟩
       rcases h2' with h | h
       · have hx : m' o = m o := by
           cases hm' : m o with
           | some c => exact mback_old hm'
           | none =>
            have := M.obs o _ a2
            rw [hm'] at this
            cases this
            cases hmi
         rw [hx] at h2
         exact M.nio o ob b a2 hmi h2
       · exact Nat.le_trans M.fr.size h
   · obtain ⟨x, c, g1, g2, g3, g4⟩ := hpos o q a1
     have e' : m' o = some c := mback_old g3
     rw [e'] at h2
     unfold retO at a2
     cases hl : look out q with
     | none => rw [hl] at a2; subst a2; cases hmi
     | some y =>
      rw [hl] at a2
      dsimp only at a2
      subst a2
      have hmq := hio q (by have := (pos_lt a1).1; omega) c g4 (by rw [hl]; simp)
      rcases back_own hmi with ⟨y', hx, hmy, hB⟩ | ⟨hy', hmy⟩
      · exact M.nio o y' b hx hmy (by rw [g3]; exact hB _ _ h2)
      · rw [hy', Blk_ren] at h2
        have := Mr.nio q y b hl (by cases y <;> first | exact hmy | cases hmy) (by rw [hmq]; exact h2)
        exact Nat.le_trans M.fr.size this
   · have e' : m' o = mo i := mback_new (M.dom o a1) a2 a3
     subst a5
     rw [Blk_up, Blk_ren] at h2
     rcases mine_up hmi with hmi | hu
     · have := Mr.nio i y b a4 (by cases y <;> first | exact hmi | cases hmi) (by rw [← e']; exact h2)
       exact Nat.le_trans M.fr.size this
     · rcases (Mr.old b ⟨i, y, a4, by rw [← e']; exact h2⟩).2 with h | h
       · obtain ⟨o2, x2, c1, c2, c3⟩ := own_hpc h
         obtain ⟨q2, hq2⟩ := pos_mem c1
         rcases mines_get (hup hu) (pos_lt hq2).2 with ⟨x3, c4, c5⟩ | ⟨cs, cs', c4, c5⟩
         · rw [c2] at c4
           cases c4
           exact M.nio o2 _ b c2 c5 c3
         · rw [c2] at c4
           cases c4
           rw [Nat.zero_add] at c5
           obtain ⟨x, c, g1, g2, g3, g4⟩ := hpos o2 q2 hq2
           have hmq := hio q2 (by have := (pos_lt hq2).1; omega) c g4 (by rw [c5]; simp)
           have c6 : Blk (mo q2) (.box cs') b := by
            rw [hmq]
            rw [g3] at c3
            cases c <;> first | exact c3 | cases c3
           have := Mr.sep i q2 y (.box cs') b a4 c5 (by rw [← e']; exact h2) c6
           have := (pos_lt hq2).1
           omega
       · exact Nat.le_trans M.fr.size h
 · intro o ob ho
   have key : ∀ i y, look out i = some y → ObOk w' m' (RR hp' w' m') (UU w0 S hp' w' m') (mo i) (renO (gname d rs) y) := by
    intro i y hy
    exact ((Mr.obs i y hy).clean (R' := UU w (UU w0 S hp w m) out w' mo) (hpo i y hy)).ren hm (fun b h => (hU b h).1) hU
   rcases hcases o ob ho with ⟨a1, a2⟩ | ⟨q, a1, a2⟩ | ⟨a1, i, y, a2, a3, a4, a5⟩
   · left
     have e : m' o = m o := by
      cases hm : m o with
      | some c => exact mback_old hm
      | none =>
       by_cases hex : ∃ i, 16 ≤ i ∧ gname d rs i = some o
       · obtain ⟨i, hi, hg⟩ := hex
         show mback d rs m mo o = none
         rw [mback_new hm hi hg]
         cases hl : look out i with
         | none => exact Mr.dom i hl
         | some y =>
          obtain ⟨j, a, b', _⟩ := n2 i y hi hl
          rw [hg] at a
          cases a
          rw [hret, a1, a2] at b'
          cases b'
       · exact mback_none hm hex
     refine ⟨a2, e, fun b hb => Mr.fr.block b (M.old b ⟨o, ob, a2, hb⟩).1 fun h => ?_⟩
     obtain ⟨o2, y, c1, c2, c3⟩ := own_hpc h
     have := M.sep o o2 ob y b a2 c2 hb c3
     subst this
     obtain ⟨q, hq⟩ := pos_mem c1
     rw [a1] at hq; cases hq
   · right
     obtain ⟨x, c, g1, g2, g3, g4⟩ := hpos o q a1
     have e' : m' o = some c := mback_old g3
     rw [e', a2]
     unfold retO
     cases hl : look out q with
     | none => exact .dead
     | some y =>
      have hmq := hio q (by have := (pos_lt a1).1; omega) c g4 (by rw [hl]; simp)
      have := key q y hl
      rw [hmq] at this
      exact this.back (fun st e k rows h => by rw [g1] at h; cases h; exact g2 _ _ _ _ rfl) (fun st rows h => by
       rw [g1] at h; cases h
       have h0 := M.obs o _ g1
       rw [g3] at h0
       cases h0 with
       | tree a _ _ _ => exact a)
   · right
     have e' : m' o = mo i := mback_new (M.dom o a1) a2 a3
     rw [e', a5]
     exact (key i y a4).up
end
end Go.Pm
namespace Go.Pm
open Go
def oneVal : List Value → Value
 | [v] => v
 | l => .tuple l.toArray
def resVar (tmps : Array Value) : ResultVar → Sem Value
 | .tmp t => pure (tmps.getD t undef)
 | .cell a t => do loadVar t (← asAddr (tmps.getD a undef))
theorem results_run {fn : Func} {tmps : Array Value} {P : Program} {w : World} {us : List Value} (h : (fn.results.toList.mapM (resVar tmps)).run P w = .ok us w) : (results fn tmps).run P w = .ok (oneVal us) w := by
 unfold results
 have e : fn.results = fn.results.toList.toArray := by simp
 rw [e]
 simp only [List.mapM_toArray]
 show Sem.run P (do
  let vs ← (List.toArray <$> List.mapM (resVar tmps) fn.results.toList : Sem (Array Value))
  pure (if h : vs.size = 1 then vs[0] else Value.tuple vs)) w = _
 simp only [map_eq_pure_bind, Sem.run_bind, h, Result.andThen_ok, Sem.run_pure]
 match us with
 | [] => rfl
 | [t] => rfl
 | t :: t' :: l => simp [oneVal]
theorem loadVar_of_loadAt {t : TypeId} {v u : Value} {P : Program} {w : World} (h : (Instr.loadAt t v).run P w = .ok u w) : (do loadVar t (← asAddr v) : Sem Value).run P w = .ok u w := by
 cases v with
 | pointer a =>
  cases a with
  | some a => simpa [Instr.loadAt, Instr.sureAddr, asAddr] using h
  | none => simp [Instr.loadAt, Instr.sureAddr, stuck, Sem.run] at h
 | _ => simp [Instr.loadAt, Instr.sureAddr, stuck, Sem.run] at h
theorem outs_ok [Dd] {C : Cfg} (hT : TabOk C) {w0 : World} {own0 S : Nat → Prop} {n : Nat} {s : St} {a : Act} {w : World} {m : Mp} (I : Inv w0 own0 S n s a w m) : ∀ {l : List ResultVar} {vs : List TV}, outs C s l = some vs →
    ∃ us : List Value, (l.mapM (resVar a.tmps)).run C.P w = .ok us w ∧ us.length = vs.length ∧ ∀ (j : Nat) (t : TV), vs[j]? = some t → RepT w m (RR s.hp w m) (UU w0 S s.hp w m) (us.getD j undef) t := by
 intro l
 induction l with
 | nil => intro vs h; simp [outs] at h; subst h; exact ⟨[], rfl, rfl, fun j t h => by simp at h⟩
 | cons y l ih =>
  intro vs h
  have fin : ∀ {v : TV} {u : Value} {vs' : List TV}, (resVar a.tmps y).run C.P w = .ok u w → RepT w m (RR s.hp w m) (UU w0 S s.hp w m) u v → outs C s l = some vs' → vs = v :: vs' →
      ∃ us : List Value, ((y :: l).mapM (resVar a.tmps)).run C.P w = .ok us w ∧ us.length = vs.length ∧ ∀ (j : Nat) (t : TV), vs[j]? = some t → RepT w m (RR s.hp w m) (UU w0 S s.hp w m) (us.getD j undef) t := by
   intro v u vs' h1 h2 h3 h4
   obtain ⟨us, a1, a2, a3⟩ := ih h3
   subst h4
   refine ⟨u :: us, by simp only [List.mapM_cons, Sem.run_bind, h1, Result.andThen_ok, a1, Sem.run_pure], by simp [a2], fun j t hj => ?_⟩
   cases j with
   | zero => simp at hj; subst hj; simpa using h2
   | succ j => simpa using a3 j t (by simpa using hj)
  cases y with
  | cell p t =>
   simp only [outs] at h
   split at h
   · rename_i x ti vs' h1 h2 h3
     split at h
     · rename_i v hv
       cases h
       obtain ⟨u, k1, k2⟩ := load_ok (P := C.P) I.mem (hT _ _ h2) (I.tms _ _ h1) hv
       exact fin (loadVar_of_loadAt k1) k2 h3 rfl
     · cases h
   · cases h
  | tmp t =>
   simp only [outs] at h
   split at h
   · rename_i v vs' h1 h2
     cases h
     exact fin (by simp [resVar]) (I.tms _ _ h1) h2 rfl
   · cases h
section
variable {w0 : World} {own0 S : Nat → Prop} {w : World}
mutual
theorem outTV_ok [Dd] : ∀ (k : RK) {hp hp' : Hp} {m : Mp} {v : Value} {t r : TV}, Mem w0 own0 S hp w m → RepT w m (RR hp w m) (UU w0 S hp w m) v t → outTV k t hp = some (r, hp') →
    ∃ m', Mem w0 own0 S hp' w m' ∧ Goes hp w m hp' w m' ∧ RepT w m' (RR hp' w m') (UU w0 S hp' w m') v r
 | .any, hp, hp', m, v, t, r, M, hv, h => by
  cases t <;> simp [outTV] at h <;> obtain ⟨rfl, rfl⟩ := h <;> exact ⟨m, M, Goes.refl M, hv⟩
 | .d, hp, hp', m, v, t, r, M, hv, h => by
  cases t with
  | pv b p =>
   cases b with
   | true => simp [outTV] at h
   | false => simp [outTV] at h; obtain ⟨rfl, rfl⟩ := h; exact ⟨m, M, Goes.refl M, hv⟩
  | nl => simp [outTV] at h; obtain ⟨rfl, rfl⟩ := h; cases hv; exact ⟨m, M, Goes.refl M, .pv .nil⟩
  | ar ps => simp [outTV] at h; obtain ⟨rfl, rfl⟩ := h; exact ⟨m, M, Goes.refl M, hv⟩
  | ref o off len =>
   simp only [outTV] at h
   split at h
   · rename_i p hp1 hk
     cases h
     obtain ⟨a, b, c⟩ := keep_ok M hv hk
     exact ⟨m, a, b, .pv c⟩
   · cases h
  | nr o π off len =>
   simp only [outTV] at h
   split at h
   · rename_i p hp1 hk
     cases h
     obtain ⟨a, b, c⟩ := keep_ok M hv hk
     exact ⟨m, a, b, .pv c⟩
   · cases h
  | ag cs =>
   simp only [outTV] at h
   split at h
   · rename_i ps hp1 hk
     cases h
     cases hv with
     | @ag arr _ hi hs ht =>
      obtain ⟨a, b, c, d⟩ := keeps_ok (f := fun j => arr.getD j undef) M ht hk
      refine ⟨m, a, b, .ag (fun x hx => ?_) (by simp [c]; exact hs) (fun j x hj => ?_)⟩
      · obtain ⟨p, _, rfl⟩ := List.mem_map.1 hx; rfl
      · rw [List.getElem?_map] at hj
        cases hq : ps[j]? with
        | none => rw [hq] at hj; cases hj
        | some p => rw [hq] at hj; cases hj; exact .pv (d j p hq)
   · cases h
  | tu cs =>
   cases cs with
   | nil => simp [outTV] at h; obtain ⟨rfl, rfl⟩ := h; exact ⟨m, M, Goes.refl M, hv⟩
   | cons => simp [outTV] at h
  | _ => simp [outTV] at h
 | .own e k, hp, hp', m, v, t, r, M, hv, h => by
  cases t with
  | ref o off len => simp [outTV] at h; obtain ⟨rfl, rfl⟩ := h; exact ⟨m, M, Goes.refl M, hv⟩
  | nl =>
   simp only [outTV] at h
   split at h
   · rename_i hk
     split at h
     · rename_i hp1 ha
       cases h
       obtain ⟨h16, hid, rfl⟩ := add_some ha
       cases hv
       obtain ⟨a, b⟩ := row_nil_ok (st := .own) (e := e) (k := k) M h16 hid hk
       exact ⟨_, a, b, RepT.ref (off := 0) (len := 0) (A := none) (A' := none) (c := 0) (k := k) (upd_same _ _ _) (Nat.le_refl _) (.inl rfl)⟩
     · cases h
   · cases h
  | _ => simp [outTV] at h
 | .tr, hp, hp', m, v, t, r, M, hv, h => by
  cases t with
  | nr o π off len =>
   simp only [outTV] at h
   split at h
   · cases h; exact ⟨m, M, Goes.refl M, hv⟩
   · cases h
  | nl =>
   simp only [outTV] at h
   split at h
   · rename_i hp1 ha
     cases h
     obtain ⟨h16, hid, rfl⟩ := add_some ha
     cases hv
     have nob : ∀ q, ¬ TBlk (gOne (none, 0, 1)) q := fun q ⟨π, ad, _, _, h, _⟩ => by cases π <;> cases h
     obtain ⟨a, b⟩ := M.plant (w' := w) (ob' := .tree .own []) (cm := .tree (gOne (none, 0, 1))) (.refl hp) (On.refl w) h16 hid (fun q hq => absurd hq (nob q)) (fun q _ _ => rfl) (fun q _ hq => absurd hq (nob q)) (fun _ => by
      refine .tree (by simp) (fun π rs ht => ?_) (fun π x hx => ?_) (fun π π' ad ad' c1 c2 k1 k2 hg _ _ => ?_)
      · obtain ⟨rfl, rfl⟩ := tat_plain (rows := []) rfl ht
        exact ⟨none, 0, 1, rfl, by simp, by simp, fun _ => rfl, fun r hr => (by cases hr), fun ad hA => (by cases hA)⟩
      · cases π with
        | nil => exact ⟨[], rfl⟩
        | cons y π => cases hx
      · cases π <;> cases hg)
     exact ⟨_, a, b, RepT.nr (off := 0) (len := 0) (π := []) (A := none) (A' := none) (c := 0) (k := 1) (upd_same _ _ _) rfl (Nat.le_refl _) (.inl rfl)⟩
   · cases h
  | ref o off len =>
   simp only [outTV] at h
   split at h
   · rename_i o' st rows hat
     split at h
     · rename_i hp1 ha
       cases h
       obtain ⟨h16, hid, rfl⟩ := add_some ha
       obtain ⟨ob, g, A, A', c, k, a1, a2, a3, a4, a5, a6, a7, a8, a9, _, _⟩ := asTree_ok M hv hat
       obtain ⟨A2, c2, k2, b1, b2, _⟩ := a2.root
       rw [a3] at b1
       cases b1
       obtain ⟨a, b⟩ := M.plant (w' := w) (ob' := .tree st rows) (cm := .tree g) (.put a1) (On.refl w) h16 hid (fun q hq => .inl ⟨o', ob, a1, look_put_same _ _ _, a6 q hq⟩) (fun q _ _ => rfl)
        (fun q hm hq => M.nio o' ob q a1 (a9 (by cases st <;> first | rfl | cases hm)) (a6 q hq)) (fun _ => .tree a8 a2.part a2.dom a2.inj)
       subst a4
       refine ⟨_, a, b, ?_⟩
       have := RepT.nr (w := w) (R := RR (put (put hp o' .dead) (2000001 + 2 * hp.length) (.tree st rows)) w (upd m (2000001 + 2 * hp.length) (.tree g))) (U := UU w0 S (put (put hp o' .dead) (2000001 + 2 * hp.length) (.tree st rows)) w (upd m (2000001 + 2 * hp.length) (.tree g)))
        (m := upd m (2000001 + 2 * hp.length) (.tree g)) (o := 2000001 + 2 * hp.length) (off := 0) (len := rows.length) (c := c) (k := k) (π := []) (A := A) (A' := A') (upd_same m _ _) a3 (by omega) (by
         rcases a5 with rfl | h
         · exact .inl (Addr_add0 _ k)
         · exact .inr h.symm)
       simpa using this
     · cases h
   · cases h
  | _ => simp [outTV] at h
 | .ag ks, hp, hp', m, v, t, r, M, hv, h => by
  cases t with
  | ag cs =>
   simp only [outTV] at h
   split at h
   · rename_i l hp1 hl
     split at h
     · rename_i hall
       cases h
       cases hv with
       | @ag arr _ hi hs ht =>
        obtain ⟨m', a, b, c, d⟩ := outL_ok ks (f := fun j => arr.getD j undef) M ht hl
        exact ⟨m', a, b, .ag (fun x hx => List.all_eq_true.1 hall x hx) (by rw [c]; exact hs) d⟩
     · cases h
   · cases h
  | _ => simp [outTV] at h
 | .tu ks, hp, hp', m, v, t, r, M, hv, h => by
  cases t with
  | tu cs =>
   simp only [outTV] at h
   split at h
   · rename_i l hp1 hl
     cases h
     cases hv with
     | @tu arr _ hs ht =>
      obtain ⟨m', a, b, c, d⟩ := outL_ok ks (f := fun j => arr.getD j undef) M ht hl
      exact ⟨m', a, b, .tu (by rw [c]; exact hs) d⟩
   · cases h
  | _ => simp [outTV] at h
theorem outL_ok [Dd] : ∀ (ks : List RK) {hp hp' : Hp} {m : Mp} {f : Nat → Value} {ts l : List TV}, Mem w0 own0 S hp w m → (∀ (j : Nat) (t : TV), ts[j]? = some t → RepT w m (RR hp w m) (UU w0 S hp w m) (f j) t) → outL ks ts hp = some (l, hp') →
    ∃ m', Mem w0 own0 S hp' w m' ∧ Goes hp w m hp' w m' ∧ l.length = ts.length ∧ ∀ (j : Nat) (t : TV), l[j]? = some t → RepT w m' (RR hp' w m') (UU w0 S hp' w m') (f j) t
 | [], hp, hp', m, f, ts, l, M, hf, h => by
  cases ts with
  | nil => simp [outL] at h; obtain ⟨rfl, rfl⟩ := h; exact ⟨m, M, Goes.refl M, rfl, fun j t h => by simp at h⟩
  | cons => simp [outL] at h
 | k :: ks, hp, hp', m, f, ts, l, M, hf, h => by
  cases ts with
  | nil => simp [outL] at h
  | cons t ts =>
   simp only [outL] at h
   split at h
   · rename_i x hp1 hx
     split at h
     · rename_i l' hp2 hl
       cases h
       obtain ⟨m1, a1, b1, c1⟩ := outTV_ok k M (hf 0 t (by simp)) hx
       obtain ⟨m2, a2, b2, c2, d2⟩ := outL_ok ks (f := fun j => f (j + 1)) a1 (fun j t hj => b1.repT (hf (j + 1) t (by simpa using hj))) hl
       refine ⟨m2, a2, b1.trans b2, by simp [c2], fun j y hj => ?_⟩
       cases j with
       | zero => simp at hj; subst hj; exact b2.repT c1
       | succ j => exact d2 j y (by simpa using hj)
     · cases h
   · cases h
end
end
mutual
theorem pure_ren (f : Nat → Option Nat) : ∀ (t : TV), pure? t = true → pure? (ren f t) = true
 | .pv b p, h => by simpa [ren] using h
 | .ud, _ => rfl
 | .nl, _ => rfl
 | .ag cs, h => by simp only [ren, pure?] at *; exact pureL_ren f cs h
 | .ar ps, _ => rfl
 | .tu cs, h => by simp only [ren, pure?] at *; exact pureL_ren f cs h
 | .ref o a b, _ => by simp only [ren]; split <;> rfl
 | .bp o a, _ => by simp only [ren]; split <;> rfl
 | .ep o i j, _ => by simp only [ren]; split <;> rfl
 | .nr o π i j, _ => by simp only [ren]; split <;> rfl
 | .np o π i j, _ => by simp only [ren]; split <;> rfl
 | .ap o a, _ => by simp only [ren]; split <;> rfl
 | .dv none r, h => by simp [pure?] at h
 | .dv (some o) r, _ => by simp only [ren, renS]; cases f o <;> rfl
 | .dp none r, h => by simp [pure?] at h
 | .dp (some o) r, _ => by simp only [ren, renS]; cases f o <;> rfl
 | .rp cs, h => by simp [pure?] at h
 | .fn g cs, h => by simp only [ren, pure?] at *; exact pureL_ren f cs h
 | .mv g cs, h => by simp only [ren, pure?] at *; exact pureL_ren f cs h
 | .er, h => h
theorem pureL_ren (f : Nat → Option Nat) : ∀ (l : List TV), pure?.pureL l = true → pure?.pureL (ren.renL f l) = true
 | [], _ => rfl
 | t :: l, h => by
  simp only [pure?.pureL, Bool.and_eq_true, ren.renL] at *
  exact ⟨pure_ren f t h.1, pureL_ren f l h.2⟩
end
def Lo (m : Mp) (out : Hp) (mo : Mp) : Prop := ∀ i, i < 16 → ∀ c, m i = some c → look out i ≠ none → mo i = some c
theorem Lo.goes [Dd] {m m1 m2 : Mp} {hp hp' : Hp} {w w' : World} (h : Lo m hp m1) (g : Goes hp w m1 hp' w' m2) : Lo m hp' m2 := fun i hi c hc hl =>
 g.ext i c (h i hi c hc (fun e => hl (g.low i hi e)))
theorem names_lt {L : List Nat} {o i : Nat} (h : names L o = some i) (hi : i < 16) : o = i := by
 unfold names at h
 split at h
 · cases h
   split at hi
   · rename_i h1; rw [if_pos h1]
   · simp [cid] at hi; omega
 · cases h
theorem Lo.names [Dd] {m m1 : Mp} {hp : Hp} {L : List Nat} (h : Lo m hp m1) : Lo m (renH (names L) hp L) (mren (Pm.names L) m1 L) := fun i hi c hc hl => by
 cases hx : look (renH (Pm.names L) hp L) i with
 | none => exact absurd hx hl
 | some ob =>
  obtain ⟨o, x, a1, a2, a3, _⟩ := look_renH hx
  have := names_lt a2 hi
  subst this
  rw [mren_eq (names_inj L) a1 a2]
  exact h o hi c hc (by rw [a3]; simp)
theorem givable'_get {hp : Hp} : ∀ {L : List Nat}, finish.givable' hp L = true → ∀ {o : Nat}, o ∈ L → ∀ {x : OB}, look hp o = some x → pureO x = true := by
 intro L
 induction L with
 | nil => intro _ o h; cases h
 | cons y l ih =>
  intro h o ho x hx
  simp only [finish.givable', Bool.and_eq_true] at h
  rcases List.mem_cons.1 ho with rfl | ho
  · have h1 := h.1
    rw [hx] at h1
    cases x with
    | box cs => exact h1
    | _ => rfl
  · exact ih h.2 ho hx
def Post [Dd] (C : Cfg) (own0 S : Nat → Prop) (w : World) (m : Mp) (r : TV) (out : Hp) (e : Ending) (w' : World) : Prop :=
 ∃ v mo, e = .returned v ∧ Mem w own0 S out w' mo ∧ RepT w' mo (RR out w' mo) (UU w S out w' mo) v r ∧ Lo m out mo
def GG (C : Cfg) (w0 : World) (own0 : Nat → Prop) : Prop := (∀ b, own0 b → C.ng ≤ b) ∧ C.ng ≤ w0.heap.size ∧ C.gw w0
def GwSt (C : Cfg) : Prop := ∀ w w', C.gw w → C.ng ≤ w.heap.size → w.heap.size ≤ w'.heap.size → (∀ b, b < C.ng → w'.heap[b]? = w.heap[b]?) → C.gw w'
theorem GG.on [Dd] {C : Cfg} {w0 : World} {own0 S : Nat → Prop} {hp : Hp} {w : World} {m : Mp} (h : GG C w0 own0) (hs : GwSt C) (M : Mem w0 own0 S hp w m) {own1 : Nat → Prop} (ho : ∀ b, own1 b → Own m hp b) : GG C w own1 := by
 obtain ⟨h1, h2, h3⟩ := h
 refine ⟨fun b hb => ?_, Nat.le_trans h2 M.fr.size, hs _ _ h3 h2 M.fr.size (fun b hb => M.fr.block b (by omega) (fun h => by have := h1 b h; omega))⟩
 obtain ⟨_, h4⟩ := M.old b (ho b hb)
 rcases h4 with h4 | h4
 · exact h1 b h4
 · omega
def SpecF [Dd] (C : Cfg) (f : FuncId) (args : List TV) (hp : Hp) (r : TV) (out : Hp) : Prop :=
 (∃ fn, C.P.funcs[f]? = some fn ∧ (fn.name == "runtime.NumGoroutine") = false ∧ fn.body.isNone = false) ∧ pure? r = true ∧ (∀ i ob, look out i = some ob → pureO ob = true) ∧
 ∀ (w : World) (own0 S : Nat → Prop) (m : Mp) (vs : Array Value), Mem w own0 S hp w m → GG C w own0 → vs.size = args.length → (∀ (j : Nat) (t : TV), args[j]? = some t → RepT w m (RR hp w m) (UU w S hp w m) (vs.getD j undef) t) →
  Calls C.P f vs w (Post C own0 S w m r out)
def Pu (r : TV) (out : Hp) : Prop := pure? r = true ∧ ∀ i ob, look out i = some ob → pureO ob = true
theorem finish_pure [Dd] {C : Cfg} {f : FuncId} {fn : Func} {s : St} {r : TV} {out : Hp} (h : finish C f fn s = some (r, out)) : Pu r out := by
 unfold finish at h
 split at h
 · split at h
   · split at h
     · rename_i hpu
       dsimp only at h
       split at h
       · rename_i hg
         cases h
         refine ⟨pure_ren _ _ hpu, fun i ob hi => ?_⟩
         obtain ⟨o, x, d1, d2, d3, rfl⟩ := look_renH hi
         have hx := givable'_get hg d1 d3
         cases x with
         | box cs => exact pureL_ren _ _ hx
         | _ => rfl
       · cases h
     · cases h
   · cases h
 · cases h
theorem finish_ok [Dd] {C : Cfg} (hT : TabOk C) {f : FuncId} {fn : Func} {w0 : World} {own0 S : Nat → Prop} {n : Nat} {s : St} {a : Act} {w : World} {m m0 : Mp} (I : Inv w0 own0 S n s a w m) (hlo : Lo m0 s.hp m) {r : TV} {out : Hp} (h : finish C f fn s = some (r, out)) :
    ∃ v mo, (results fn a.tmps).run C.P w = .ok v w ∧ Mem w0 own0 S out w mo ∧ RepT w mo (RR out w mo) (UU w0 S out w mo) v r ∧ Lo m0 out mo := by
 unfold finish at h
 split at h
 · rename_i vs ho
   split at h
   · rename_i r1 hp1 hr
     split at h
     · rename_i hpu
       dsimp only at h
       split at h
       · rename_i hg
         cases h
         obtain ⟨us, e1, e2, e3⟩ := outs_ok hT I ho
         have hres := results_run e1
         have hv : RepT w m (RR s.hp w m) (UU w0 S s.hp w m) (oneVal us) (oneOf vs) := by
          have many : RepT w m (RR s.hp w m) (UU w0 S s.hp w m) (.tuple us.toArray) (.tu vs) :=
           .tu (by simp [e2]) (fun j t hj => by simpa [Array.getD_eq_getD_getElem?, List.getD] using e3 j t hj)
          match us, vs, e2, e3, many with
          | [], [], _, _, many => exact many
          | [u], [v], _, e3, _ => simpa [oneVal, oneOf] using e3 0 v (by simp)
          | _ :: _ :: _, _ :: _ :: _, _, _, many => exact many
         obtain ⟨m1, a1, b1, c1⟩ := outTV_ok (C.sg f).ret I.mem hv hr
         exact ⟨_, _, hres, a1.ren (names_inj _) (fun o i h => names_mem h), ren_rep (names_inj _) (fun o i h => names_mem h) c1, (hlo.goes b1).names⟩
       · cases h
     · cases h
   · cases h
 · cases h
section
variable {C : Cfg} {w0 : World} {own0 S : Nat → Prop} {n : Nat} {s : St} {a : Act} {w : World} {m : Mp}
theorem calleeOf_ok [Dd] (I : Inv w0 own0 S n s a w m) {x : Operand} {f : FuncId} {first caps : List TV} (h : calleeOf s (.value x) = some (f, first, caps)) :
    ∃ fst arr : Array Value, a.eval x = .func (.func f) fst arr ∧ fst.size = first.length ∧ arr.size = caps.length ∧ (∀ (j : Nat) (t : TV), first[j]? = some t → RepT w m (RR s.hp w m) (UU w0 S s.hp w m) (fst.getD j undef) t) ∧ ∀ (j : Nat) (t : TV), caps[j]? = some t → RepT w m (RR s.hp w m) (UU w0 S s.hp w m) (arr.getD j undef) t := by
 simp only [calleeOf] at h
 split at h
 · rename_i g cs hx
   cases h
   have := I.ev hx
   generalize a.eval x = v at this
   cases this with
   | fn hs ht => exact ⟨_, _, rfl, rfl, hs, fun j t hj => by simp at hj, ht⟩
 · rename_i g cs hx
   cases h
   have := I.ev hx
   generalize a.eval x = v at this
   cases this with
   | mv hs ht => exact ⟨_, _, rfl, hs, rfl, ht, fun j t hj => by simp at hj⟩
 · rename_i b g cs hx
   cases h
   have := (I.ev hx).pvv
   generalize a.eval x = v at this
   cases this with
   | cl hs ht =>
    refine ⟨_, _, rfl, rfl, by simpa using hs, fun j t hj => by simp at hj, fun j t hj => ?_⟩
    rw [List.getElem?_map] at hj
    cases hq : cs[j]? with
    | none => rw [hq] at hj; cases hj
    | some p =>
     rw [hq] at hj
     cases hj
     have := ht j p hq
     exact .mk (by cases b <;> exact this)
 · cases h
theorem callStd_ok [Dd] (G : GG C w0 own0) (hgs : GwSt C) (I : Inv w0 own0 S n s a w m) {Φ : FuncId → List TV → Hp → Option Res} (hΦ : ∀ f ts hp r out, Φ f ts hp = some (r, out) → SpecF C f ts hp r out) {f : FuncId} {args : List TV} {vs : Array Value}
    (hsz : vs.size = args.length) (hvs : ∀ (j : Nat) (t : TV), args[j]? = some t → RepT w m (RR s.hp w m) (UU w0 S s.hp w m) (vs.getD j undef) t) {d : Nat} {r : TV} {hp' : Hp} (h : callStd C Φ s d f args = some (r, hp')) :
    (∃ fn, C.P.funcs[f]? = some fn ∧ (fn.name == "runtime.NumGoroutine") = false ∧ fn.body.isNone = false) ∧ Calls C.P f vs w (fun e w' => ∃ v m', e = .returned v ∧ Mem w0 own0 S hp' w' m' ∧ Goes s.hp w m hp' w' m' ∧ RepT w' m' (RR hp' w' m') (UU w0 S hp' w' m') v r) := by
 unfold callStd at h
 dsimp only at h
 split at h
 · rename_i hcond
   simp only [Bool.and_eq_true, decide_eq_true_eq] at hcond
   obtain ⟨⟨hg, _⟩, h16⟩ := hcond
   split at h
   · rename_i ts hts
     split at h
     · rename_i r0 out hr
       split at h
       · rename_i hp1 hnew
         cases h
         obtain ⟨g1, g4, g5, g6⟩ := hΦ _ _ _ _ _ hr
         obtain ⟨k1, k2⟩ := handOn_ok I.mem hvs hts
         refine ⟨g1, ?_⟩
         obtain ⟨n1, n2⟩ := reach_ok s.hp 64 (given (C.sg f).io args) [] (by simp) (by simp)
         refine (g6 w _ _ (mpc m _) vs (I.mem.give _) (G.on hgs I.mem (fun b hb => own_hpc' hb)) (by rw [k1]; exact hsz) (by simpa using k2)).mono ?_
         rintro e w' ⟨v, mo, rfl, q1, q2, q3⟩
         obtain ⟨m', p1, p2, p3⟩ := back_ok (d := d) I.mem n1 hg h16 q1 q3 g5 id hnew
         exact ⟨v, m', rfl, p1, p2, p3 v _ q2 g4⟩
       · cases h
     · cases h
   · cases h
 · cases h
theorem mapO_get {f : TV → Option TV} : ∀ {l l' : List TV}, mapO f l = some l' → l'.length = l.length ∧ ∀ (j : Nat) (t' : TV), l'[j]? = some t' → ∃ t, l[j]? = some t ∧ f t = some t' := by
 intro l
 induction l with
 | nil => intro l' h; simp [mapO] at h; subst h; exact ⟨rfl, fun j t h => by simp at h⟩
 | cons x l ih =>
  intro l' h
  simp only [mapO] at h
  split at h
  · rename_i y ys h1 h2
    cases h
    obtain ⟨a, b⟩ := ih h2
    refine ⟨by simp [a], fun j t' hj => ?_⟩
    cases j with
    | zero => simp at hj; exact ⟨x, by simp, by rw [h1, hj]⟩
    | succ j => obtain ⟨t, c, d⟩ := b j t' (by simpa using hj); exact ⟨t, by simpa using c, d⟩
  · cases h
theorem flatL_get {l : List TV} (h : flatT.flatL l = true) : ∀ {j : Nat} {t : TV}, l[j]? = some t → flatT t = true := by
 induction l with
 | nil => intro j t hj; simp at hj
 | cons x l ih =>
  simp only [flatT.flatL, Bool.and_eq_true] at h
  intro j t hj
  cases j with
  | zero => simp at hj; rw [← hj]; exact h.1
  | succ j => exact ih h.2 (by simpa using hj)
theorem RepT.flat {w : World} {m : Mp} {R U R' U' : Nat → Prop} {v : Value} {t : TV} (h : RepT w m R U v t) : flatT t = true → RepT w m R' U' v t := by
 induction h with
 | @pv v b p h =>
  intro hp
  cases p with
  | sc v' => cases h with | sc h => exact .pv (.sc h)
  | _ => simp [flatT] at hp
 | ud h => exact fun _ => .ud h
 | nl => exact fun _ => .nl
 | ag hi hs _ ih => exact fun hp => .ag hi hs (fun j t hj => ih j t hj (flatL_get (by simpa [flatT] using hp) hj))
 | tu hs _ ih => exact fun hp => .tu hs (fun j t hj => ih j t hj (flatL_get (by simpa [flatT] using hp) hj))
 | ref h a b => exact fun _ => .ref h a b
 | bp h => exact fun _ => .bp h
 | er => exact fun _ => .er
 | nr h a b c => exact fun _ => .nr h a b c
 | _ => intro hp; simp [flatT] at hp
theorem Rep.ofSc {w w' : World} {R U R' U' : Nat → Prop} {v : Value} {p : PV} (h : Rep w R U v p) (hp : p.isSc = true) : Rep w' R' U' v p := by
 cases h with
 | sc h => exact .sc h
 | _ => simp [PV.isSc] at hp
theorem ObOk.flat {w : World} {m : Mp} {R U R' U' : Nat → Prop} {cm : Option CM} {ob : OB} (h : ObOk w m R U cm ob) (hf : flatO ob = true) : ObOk w m R' U' cm ob := by
 cases h with
 | box hi hc hs ht => exact .box hi hc hs (fun j t hj => (ht j t hj).flat (flatL_get (by simpa [flatO] using hf) hj))
 | arr hc hs ht => exact .arr hc hs (fun j p hj => (ht j p hj).ofSc (List.all_eq_true.1 (by simpa [flatO] using hf) p (List.mem_of_getElem? hj)))
 | row h1 h2 h3 h4 h5 =>
  simp only [flatO, Bool.and_eq_true, decide_eq_true_eq] at hf
  refine .row h1 h2 h3 h4 (fun ad hA => ?_)
  obtain ⟨hs, hz, cells, hc, hsz, hr⟩ := h5 ad hA
  exact ⟨hs, fun e => absurd e hf.1, cells, hc, hsz, fun i r j p hi hj => (hr i r j p hi hj).ofSc (List.all_eq_true.1 (List.all_eq_true.1 hf.2 r (List.mem_of_getElem? hi)) p (List.mem_of_getElem? hj))⟩
 | tree h1 h2 h3 h4 => exact .tree h1 h2 h3 h4
 | dat => simp [flatO] at hf
 | dead => exact .dead
theorem flatH_get : ∀ {hp : Hp}, flatH hp = true → ∀ {i : Nat} {ob : OB}, look hp i = some ob → flatO ob = true := by
 intro hp
 induction hp with
 | nil => intro _ i ob h; cases h
 | cons x l ih =>
  obtain ⟨j, y⟩ := x
  intro h i ob hl
  simp only [flatH, Bool.and_eq_true] at h
  simp only [look] at hl
  split at hl
  · cases hl; exact h.1
  · exact ih h.2 hl
theorem Mem.deflate [Dd] {w0 : World} {own0 S S' : Nat → Prop} {hp : Hp} {w : World} {m : Mp} (M : Mem w0 own0 S hp w m) (hf : flatH hp = true) (hs : ∀ b, S' b → S b) : Mem w0 own0 S' hp w m where
 fr := M.fr
 dom := M.dom
 old := M.old
 sep := M.sep
 nio := M.nio
 sown b h := M.sown b (hs b h)
 own0lt := M.own0lt
 obs o ob h := (M.obs o ob h).flat (flatH_get hf h)
theorem noOwn {m : Mp} {hp : Hp} (b : Nat) : ¬ Own (mpc m []) (hpc hp []) b := by
 rintro ⟨i, ob, h, _⟩
 cases h
theorem Mem.none [Dd] {w : World} {m : Mp} {hp : Hp} (S' : Nat → Prop) (hS : ∀ b, S' b → b < w.heap.size) : Mem w (Own (mpc m []) (hpc hp [])) S' (hpc hp []) w (mpc m []) where
 fr := ⟨rfl, rfl, rfl, Nat.le_refl _, fun _ _ _ => rfl, fun _ => Nat.le_refl _⟩
 dom i h := rfl
 old b h := absurd h (noOwn b)
 sep i i' ob ob' b h1 := by cases h1
 nio i ob b h1 := by cases h1
 sown b h := ⟨hS b h, noOwn b⟩
 own0lt b h := absurd h (noOwn b)
 obs i ob h := by cases h
theorem deepT_ok [Dd] {hp : Hp} (M : Mem w0 own0 S hp w m) {mc : Mp} {A : Nat → Prop} (hA : ∀ b, b < w.heap.size → A b) {v : Value} {t t' : TV} (hv : RepT w m (RR hp w m) (UU w0 S hp w m) v t) (h : deepT hp t = some t') : RepT w mc A A v t' := by
 unfold deepT at h
 split at h
 · rename_i o rows
   split at h
   · rename_i hl
     cases h
     cases hv with
     | @dv _ _ _ w1 B hS hrep =>
      have hm : m o = some (.dat w1 B) := hS
      have hob := M.obs o _ hl
      rw [hm] at hob
      cases hob with
      | dat hd =>
       have hk : Keeps w1 w B := fun b off v hb hc => by
        obtain ⟨e, e1, cells, cells1, a1, a2, _, _, a5⟩ := hd b hb
        rw [a1.cell, a5 rfl, ← a2.cell]
        exact hc
       have hB : ∀ b, B b → A b := fun b hb => by
        obtain ⟨e, e1, cells, cells1, a1, _⟩ := hd b hb
        exact hA b a1.lt
       exact .pv (hrep.mono hk hk hB hB)
   · cases h
 · cases h
   cases hv with
   | dv hS hrep =>
    obtain ⟨rfl, rfl⟩ := hS
    exact .dv (s := Option.none) (B := A) ⟨rfl, rfl⟩ (hrep.weaken (fun b h => hA b h.1) (fun b h => hA b h.1))
 · split at h
   · rename_i o π off len _ st rows hl
     split at h
     · rename_i rs0 htat
       split at h
       · rename_i hc
         obtain ⟨rfl, rfl⟩ := hc
         cases h
         cases hv with
         | @nr _ _ _ c k _ A1 A' g hm hg hoc hA1 =>
         have hob := M.obs o _ hl
         rw [hm] at hob
         cases hob with
         | tree k1 k2 k3 k4 =>
          have T : Tree w g rows := ⟨k2, k3, k4⟩
          have hrep := tree_rep (R := A) T (fun q hq => hA q (T.lt hq)) _ π rs0 A1 c k (Nat.le_refl _) htat hg
          rcases hA1 with hA1 | hA1
          · have : A' = A1 := by rw [hA1]; exact (Addr_add0 A1 k).symm
            subst this
            exact .pv hrep
          · have hr0 : rs0 = [] := List.eq_nil_of_length_eq_zero (by omega)
            subst hr0
            exact .pv .nil
       · cases h
     · cases h
   · cases h
 · exact view_ok M (fun b h => hA b h.1) (fun b h => hA b h.1.1) (fun _ h => h) (fun o ob b hl _ hb => hA b (M.old b ⟨o, ob, hl, hb⟩).1) 32 hv h
theorem deepV_ok [Dd] {hp : Hp} (M : Mem w0 own0 S hp w m) {mc : Mp} {A : Nat → Prop} (hA : ∀ b, b < w.heap.size → A b) {v : Value} {t t' : TV} (hv : RepT w m (RR hp w m) (UU w0 S hp w m) v t) (h : deepV hp t = some t') : RepT w mc A A v t' := by
 unfold deepV at h
 split at h
 · rename_i cs
   split at h
   · rename_i l hl
     cases hc : l.all TV.isCell with
     | false => rw [hc] at h; cases h
     | true =>
      rw [hc] at h
      cases h
      obtain ⟨h1, h2⟩ := mapO_get hl
      cases hv with
      | ag hi hs ht =>
       refine .ag (fun t ht' => List.all_eq_true.1 hc t ht') (by rw [h1]; exact hs) (fun j t hj => ?_)
       obtain ⟨t0, b1, b2⟩ := h2 j t hj
       exact deepT_ok M hA (ht j t0 b1) b2
   · cases h
 · exact deepT_ok M hA hv h
theorem callDeep_ok [Dd] (G : GG C w0 own0) (hgs : GwSt C) (I : Inv w0 own0 S n s a w m) {Φ : FuncId → List TV → Hp → Option Res} (hΦ : ∀ f ts hp r out, Φ f ts hp = some (r, out) → SpecF C f ts hp r out) {f : FuncId} {args : List TV} {vs : Array Value}
    (hsz : vs.size = args.length) (hvs : ∀ (j : Nat) (t : TV), args[j]? = some t → RepT w m (RR s.hp w m) (UU w0 S s.hp w m) (vs.getD j undef) t) {d : Nat} {r : TV} {hp' : Hp} (h : callDeep Φ s d f args = some (r, hp')) :
    (∃ fn, C.P.funcs[f]? = some fn ∧ (fn.name == "runtime.NumGoroutine") = false ∧ fn.body.isNone = false) ∧ Calls C.P f vs w (fun e w' => ∃ v m', e = .returned v ∧ Mem w0 own0 S hp' w' m' ∧ Goes s.hp w m hp' w' m' ∧ RepT w' m' (RR hp' w' m') (UU w0 S hp' w' m') v r) := by
 unfold callDeep at h
 split at h
 · rename_i ts hts
   split at h
   · rename_i r0 out hr
     cases hfl : flatT r0 && flatH out with
     | false => rw [hfl] at h; cases h
     | true =>
      rw [hfl] at h
      simp only [cond_true] at h
      simp only [Bool.and_eq_true] at hfl
      split at h
      · rename_i hp1 hnew
        cases h
        obtain ⟨g1, g4, g5, g6⟩ := hΦ _ _ _ _ _ hr
        obtain ⟨k1, k2⟩ := mapO_get hts
        refine ⟨g1, ?_⟩
        refine (g6 w _ (fun b => b < w.heap.size) (mpc m []) vs (Mem.none (hp := s.hp) _ fun _ h => h) (G.on hgs I.mem (fun b hb => own_hpc' hb)) (by rw [k1]; exact hsz) (fun j t hj => ?_)).mono ?_
        · obtain ⟨t0, b1, b2⟩ := k2 j t hj
          have := deepV_ok (mc := mpc m []) (A := fun b => b < w.heap.size) I.mem (fun _ h => h) (hvs j t0 b1) b2
          have hR : ∀ b, b < w.heap.size → RR (hpc s.hp []) w (mpc m []) b := fun b hb => ⟨hb, noOwn b⟩
          exact this.mono (fun _ _ h => h) (Keeps.refl _ _) (Keeps.refl _ _) hR (fun b hb => ⟨hR b hb, .inl hb⟩)
        · rintro e w' ⟨v, mo, rfl, q1, q2, q3⟩
          obtain ⟨m', p1, p2, p3⟩ := back_ok (d := d) (rs := []) I.mem (by simp) rfl (by simp) (q1.deflate hfl.2 fun b h => h.1.1) q3 g5 (fun _ => rfl) hnew
          exact ⟨v, m', rfl, p1, p2, p3 v _ (q2.flat hfl.1) g4⟩
      · cases h
   · cases h
 · cases h
theorem freshT_ok [Dd] {hp : Hp} {mc : Mp} {A U' : Nat → Prop} (hA : ∀ b, b < w.heap.size → A b) {v : Value} {t t' : TV} (hv : RepT w m (RR hp w m) (UU w0 S hp w m) v t) (h : freshT t = some t') : RepT w mc A U' v t' ∧ t'.isCell = true := by
 unfold freshT at h
 split at h
 · cases h
   exact ⟨.dv (s := Option.none) (B := A) ⟨rfl, rfl⟩ (hv.pvv.weaken (fun b h => hA b (by rename_i bb _ ; cases bb <;> first | exact h.1 | exact h.1.1)) (fun b h => hA b h.1.1)), rfl⟩
 · cases h
   cases hv with
   | pv h => cases h with | sc h => exact ⟨.pv (.sc h), rfl⟩
 · cases h
   cases hv
   exact ⟨.dv (s := Option.none) (B := A) ⟨rfl, rfl⟩ .nil, rfl⟩
 · cases h
theorem freshV_ok [Dd] {hp : Hp} {mc : Mp} {A U' : Nat → Prop} (hA : ∀ b, b < w.heap.size → A b) {v : Value} {t t' : TV} (hv : RepT w m (RR hp w m) (UU w0 S hp w m) v t) (h : freshV t = some t') : RepT w mc A U' v t' := by
 unfold freshV at h
 split at h
 · rename_i cs
   split at h
   · rename_i l hl
     cases h
     obtain ⟨h1, h2⟩ := mapO_get hl
     cases hv with
     | ag hi hs ht =>
      have hall : ∀ (j : Nat) (t : TV), l[j]? = some t → ∃ t0, cs[j]? = some t0 ∧ freshT t0 = some t := h2
      refine .ag (fun t ht' => ?_) (by rw [h1]; exact hs) (fun j t hj => ?_)
      · obtain ⟨j, hj⟩ := List.getElem?_of_mem ht'
        obtain ⟨t0, b1, b2⟩ := h2 j t hj
        exact (freshT_ok (mc := mc) (U' := U') hA (ht j t0 b1) b2).2
      · obtain ⟨t0, b1, b2⟩ := h2 j t hj
        exact (freshT_ok hA (ht j t0 b1) b2).1
   · cases h
 · exact (freshT_ok hA hv h).1
theorem ownT_ok {w' : World} {m1 m' : Mp} {R B R' U' : Nat → Prop} {id : Nat} (hm : m' id = some (.dat w' B)) {v : Value} {t t' : TV} (hv : RepT w' m1 R B v t) (h : ownT id t = some t') : RepT w' m' R' U' v t' ∧ t'.isCell = true := by
 unfold ownT at h
 split at h
 · cases h
   cases hv with | pv h => exact ⟨.dv (s := some id) hm h, rfl⟩
 · cases h
   cases hv with
   | pv h => cases h with | sc h => exact ⟨.pv (.sc h), rfl⟩
 · cases h
theorem ownV_ok {w' : World} {m1 m' : Mp} {R B R' U' : Nat → Prop} {id : Nat} (hm : m' id = some (.dat w' B)) {v : Value} {t t' : TV} (hv : RepT w' m1 R B v t) (h : ownV id t = some t') : RepT w' m' R' U' v t' := by
 unfold ownV at h
 split at h
 · rename_i cs
   split at h
   · rename_i l hl
     cases h
     obtain ⟨h1, h2⟩ := mapO_get hl
     cases hv with
     | ag hi hs ht =>
      refine .ag (fun t ht' => ?_) (by rw [h1]; exact hs) (fun j t hj => ?_)
      · obtain ⟨j, hj⟩ := List.getElem?_of_mem ht'
        obtain ⟨t0, b1, b2⟩ := h2 j t hj
        exact (ownT_ok (R' := R') (U' := U') hm (ht j t0 b1) b2).2
      · obtain ⟨t0, b1, b2⟩ := h2 j t hj
        exact (ownT_ok hm (ht j t0 b1) b2).1
   · cases h
 · exact (ownT_ok hm hv h).1
theorem callFresh_ok [Dd] (G : GG C w0 own0) (hgs : GwSt C) (I : Inv w0 own0 S n s a w m) {Φ : FuncId → List TV → Hp → Option Res} (hΦ : ∀ f ts hp r out, Φ f ts hp = some (r, out) → SpecF C f ts hp r out) {f : FuncId} {args ts : List TV} {vs : Array Value}
    (hsz : vs.size = args.length) (hvs : ∀ (j : Nat) (t : TV), args[j]? = some t → RepT w m (RR s.hp w m) (UU w0 S s.hp w m) (vs.getD j undef) t) (hts : mapO freshV args = some ts) {d : Nat} {r : TV} {hp' : Hp} (h : callFresh Φ s d f ts = some (r, hp')) :
    (∃ fn, C.P.funcs[f]? = some fn ∧ (fn.name == "runtime.NumGoroutine") = false ∧ fn.body.isNone = false) ∧ Calls C.P f vs w (fun e w' => ∃ v m', e = .returned v ∧ Mem w0 own0 S hp' w' m' ∧ Goes s.hp w m hp' w' m' ∧ RepT w' m' (RR hp' w' m') (UU w0 S hp' w' m') v r) := by
 unfold callFresh at h
 split at h
 · rename_i r0 hr
   split at h
   · rename_i x hp1 ho ha
     cases h
     obtain ⟨h16, hid, rfl⟩ := add_some ha
     obtain ⟨g1, g4, g5, g6⟩ := hΦ _ _ _ _ _ hr
     obtain ⟨k1, k2⟩ := mapO_get hts
     refine ⟨g1, ?_⟩
     refine (g6 w _ (fun _ => False) (mpc m []) vs (Mem.none (hp := s.hp) _ fun _ h => h.elim) (G.on hgs I.mem (fun b hb => own_hpc' hb)) (by rw [k1]; exact hsz) (fun j t hj => ?_)).mono ?_
     · obtain ⟨t0, b1, b2⟩ := k2 j t hj
       exact freshV_ok (mc := mpc m []) (fun b hb => ⟨hb, noOwn (m := m) (hp := s.hp) b⟩) (hvs j t0 b1) b2
     · rintro e w' ⟨v, mo, rfl, q1, q2, q3⟩
       have hon : On w w' := ⟨q1.fr.os, q1.fr.tape, q1.fr.output, q1.fr.size, q1.fr.drawn⟩
       have hk : ∀ b, b < w.heap.size → w'.heap[b]? = w.heap[b]? := fun b hb => q1.fr.block b hb (noOwn b)
       let B : Nat → Prop := UU w (fun _ => False) [] w' mo
       have hb : ∀ b, Blk (some (.dat w' B)) (.dat true) b → w.heap.size ≤ b ∧ b < w'.heap.size := fun b hb => by
        obtain ⟨⟨h1, _⟩, h2⟩ := (hb : B b)
        rcases h2 with h2 | h2
        · exact h2.elim
        · exact ⟨h2.1, h1⟩
       refine ⟨v, upd m (nid d 0) (.dat w' B), rfl, I.mem.new hon hk h16 hid hb ?_, Goes.new I.mem hon hk h16 hid hb, ownV_ok (upd_same _ _ _) q2 ho⟩
       refine .dat fun b hB => ?_
       obtain ⟨_, h2⟩ := (hB : B b)
       rcases h2 with h2 | h2
       · exact h2.elim
       · obtain ⟨_, e, cells, hc⟩ := h2
         exact ⟨e, e, cells, cells, hc, hc, rfl, fun _ => .inl rfl, fun _ => rfl⟩
   · cases h
 · cases h
theorem callOp_ok [Dd] (G : GG C w0 own0) (hgs : GwSt C) (I : Inv w0 own0 S n s a w m) {Φ : FuncId → List TV → Hp → Option Res} (hΦ : ∀ f ts hp r out, Φ f ts hp = some (r, out) → SpecF C f ts hp r out) {o : Oper} {x : Operand} {args : Array Operand} {tys : Array TypeId}
    (ho : o.op = .call { callee := .value x, args := args, argTypes := tys }) {d : Nat} {r : TV} {hp' : Hp} (h : callOp C Φ s d { callee := .value x, args := args, argTypes := tys } = some (r, hp')) :
    ∃ f vs, (execOp a.eval o).run C.P w = .ok (.enter f vs) w ∧ Calls C.P f vs w (fun e w' => ∃ v m', e = .returned v ∧ Mem w0 own0 S hp' w' m' ∧ Goes s.hp w m hp' w' m' ∧ RepT w' m' (RR hp' w' m') (UU w0 S hp' w' m') v r) := by
 unfold callOp at h
 split at h
 · rename_i f first caps as hc ha
   obtain ⟨fst, arr, c1, c0, c2, c4, c3⟩ := calleeOf_ok I hc
   obtain ⟨d1, d2⟩ := I.evs ha
   let vs := fst ++ (args.map a.eval ++ arr)
   have hvs : ∀ (j : Nat) (t : TV), (first ++ (as ++ caps))[j]? = some t → RepT w m (RR s.hp w m) (UU w0 S s.hp w m) (vs.getD j undef) t := by
    intro j t hj
    have hl : as.length = args.size := by simpa using d1
    by_cases hlt0 : j < first.length
    · rw [List.getElem?_append_left hlt0] at hj
      have := c4 j t hj
      have hlt' : j < fst.size := by omega
      simpa [vs, Array.getD_eq_getD_getElem?, Array.getElem?_append, hlt', List.getD] using this
    rw [List.getElem?_append_right (by omega)] at hj
    have hlt0' : ¬ j < fst.size := by omega
    by_cases hlt : j - first.length < as.length
    · rw [List.getElem?_append_left hlt] at hj
      have := d2 _ t hj
      have hlt' : j - first.length < args.size := by omega
      simpa [vs, Array.getD_eq_getD_getElem?, Array.getElem?_append, hlt0, hlt', List.getD, c0] using this
    · rw [List.getElem?_append_right (by omega)] at hj
      have := c3 _ t hj
      have hlt' : ¬ j - first.length < args.size := by omega
      simpa [vs, Array.getD_eq_getD_getElem?, Array.getElem?_append, hlt0, hlt', hl, c0] using this
   have hsz : vs.size = (first ++ (as ++ caps)).length := by simp [vs, c0, c2, d1]
   have key : (∃ fn, C.P.funcs[f]? = some fn ∧ (fn.name == "runtime.NumGoroutine") = false ∧ fn.body.isNone = false) ∧ Calls C.P f vs w (fun e w' => ∃ v m', e = .returned v ∧ Mem w0 own0 S hp' w' m' ∧ Goes s.hp w m hp' w' m' ∧ RepT w' m' (RR hp' w' m') (UU w0 S hp' w' m') v r) := by
    unfold callAt at h
    cases hdp : isDeep (C.sg f).io (first ++ (as ++ caps)) with
    | true => rw [hdp] at h; exact callDeep_ok G hgs I hΦ hsz hvs h
    | false =>
     rw [hdp] at h
     simp only [cond_false] at h
     split at h
     · rename_i ts hfr
       unfold freshQ at hfr
       cases hq : (C.sg f).fr with
       | false => rw [hq] at hfr; cases hfr
       | true => rw [hq] at hfr; exact callFresh_ok G hgs I hΦ hsz hvs hfr h
     · exact callStd_ok G hgs I hΦ hsz hvs h
   obtain ⟨⟨fn, g1, g2, g3⟩, hcall⟩ := key
   refine ⟨f, vs, ?_, hcall⟩
   simp only [execOp, ho, resolve, c1, Deferred.ofValue, Sem.run_bind, Sem.run_pure, Result.andThen_ok, invoke]
   have e1 : fn.name ≠ "runtime.NumGoroutine" := by simpa using g2
   have e2 : fn.body ≠ Option.none := fun e => by rw [e] at g3; cases g3
   simp [callFunc, g1, vs]
   rw [if_neg e1, if_neg e2]
 · cases h
end
end Go.Pm
namespace Go.Pm
open Go
theorem Inv.set [Dd] {w0 : World} {own0 S : Nat → Prop} {n : Nat} {s : St} {a : Act} {w w' : World} {m m' : Mp} {hp' : Hp} (I : Inv w0 own0 S n s a w m) (M : Mem w0 own0 S hp' w' m') (g : Goes s.hp w m hp' w' m') {d : Option Nat} {u : Value} {v : TV}
    (hd : ∀ i, d = some i → i < n) (hv : RepT w' m' (RR hp' w' m') (UU w0 S hp' w' m') u v) : Inv w0 own0 S n (s.set d v hp') (a.put d u) w' m' where
 mem := by cases d <;> exact M
 tms t x h := by
  have hp : (s.set d v hp').hp = hp' := by cases d <;> rfl
  rw [hp]
  cases d with
  | none => exact g.repT (I.tms t x h)
  | some i =>
   simp only [St.set] at h
   rw [look_put] at h
   have hlt : i < a.tmps.size := Nat.lt_of_lt_of_le (hd i rfl) I.size
   split at h
   · rename_i e
     subst e
     cases h
     simpa [Act.put, Array.getD_eq_getD_getElem?, hlt] using hv
   · rename_i e
     have := g.repT (I.tms t x h)
     simpa [Act.put, Array.getD_eq_getD_getElem?, Array.getElem?_setIfInBounds_ne (Ne.symm e)] using this
 defers := by cases d <;> exact I.defers
 size := by cases d <;> simpa [Act.put] using I.size
structure Env [Dd] (C : Cfg) (Φ : FuncId → List TV → Hp → Option Res) (w0 : World) (own0 : Nat → Prop) : Prop where
 tab : TabOk C
 gg : GG C w0 own0
 gws : GwSt C
 spec : ∀ f ts hp r out, Φ f ts hp = some (r, out) → SpecF C f ts hp r out
section
variable {C : Cfg} {Φ : FuncId → List TV → Hp → Option Res} {w0 : World} {own0 S : Nat → Prop} {n : Nat} {s : St} {a : Act} {w : World} {m : Mp}
theorem light_ok [Dd] (hT : TabOk C) (I : Inv w0 own0 S n s a w m) {o : Oper} {v : TV} (h : lightOp C s o.op = some v) : POk C w0 S s a w m o v := by
 unfold lightOp at h
 split at h
 · rename_i c x y ho
   split at h
   · rename_i b t hc
     obtain ⟨e, _⟩ := (I.ev hc).scv
     cases t with
     | true =>
      simp only [cond_true] at h
      exact ⟨a.eval x, by simp [execOp, ho, e, asBool], I.ev h⟩
     | false =>
      simp only [cond_false] at h
      exact ⟨a.eval y, by simp [execOp, ho, e, asBool], I.ev h⟩
   · cases h
 · rename_i t x ho
   split at h
   · rename_i ti y h1 h2
     obtain ⟨u, h3, h4⟩ := load_ok (P := C.P) I.mem (hT _ _ h1) (I.ev h2) h
     exact ⟨u, by simp only [execOp, ho]; exact vrun h3, h4⟩
   · cases h
 · exact pureOp_ok hT I h
variable {b : Frame} {k : List Item} {cs : List Frame} {ops : Array Oper} {i : Nat} {rest : List Nat} {o : Oper}
theorem oneOp_ok [Dd] (E : Env C Φ w0 own0) (I : Inv w0 own0 S n s a w m) (ho : ops[i]? = some o) (hw : Region.wanted o (yielded ops a.tmps) = true) (hd : ∀ d, o.dst = some d → d < n) {v : TV} {hp' : Hp} (h : oneOp C Φ s o = some (v, hp')) :
    ∃ a' w' m', Steps C.P (lone (b.at a (.inRegion ops (i :: rest) :: k)) cs w) (lone (b.at a' (.inRegion ops rest :: k)) cs w') ∧ Inv w0 own0 S n (s.set o.dst v hp') a' w' m' ∧ Goes s.hp w m hp' w' m' := by
 have hg := stepG_op (P := C.P) (b := b) (k := k) (cs := cs) (w := w) (rest := rest) ho hw
 have hfin : ∀ v, (b.at a (.inRegion ops (i :: rest) :: k)).finish v = b.at (a.put o.dst v) (.inRegion ops rest :: k) := by
  intro v; rw [Frame.finish_at, ho]; rfl
 have fin : ∀ {x : Next} {u : Value} {w' : World} {m' : Mp}, (execOp a.eval o).run C.P w = .ok x w' → (x = .value u ∨ (x = .skip ∧ u = undef)) → Mem w0 own0 S hp' w' m' → Goes s.hp w m hp' w' m' → RepT w' m' (RR hp' w' m') (UU w0 S hp' w' m') u v →
     ∃ a' w' m', Steps C.P (lone (b.at a (.inRegion ops (i :: rest) :: k)) cs w) (lone (b.at a' (.inRegion ops rest :: k)) cs w') ∧ Inv w0 own0 S n (s.set o.dst v hp') a' w' m' ∧ Goes s.hp w m hp' w' m' := by
  intro x u w' m' hr hx M g hv
  refine ⟨a.put o.dst u, w', m', .one (step_lone_go ?_), I.set M g hd hv, g⟩
  rw [hg, ← hfin]
  rcases hx with rfl | ⟨rfl, rfl⟩ <;> simp [stepG.apply, hr]
 unfold oneOp at h
 cases hl : isLight C.bs o.op with
 | true =>
  rw [hl] at h
  simp only [cond_true] at h
  split at h
  · rename_i v' hv
    cases h
    obtain ⟨u, h1, h2⟩ := light_ok E.tab I hv
    exact fin h1 (.inl rfl) I.mem (Goes.refl I.mem) h2
  · cases h
 | false =>
  rw [hl] at h
  simp only [cond_false] at h
  by_cases hc : ∃ x args ts, o.op = .call { callee := .value x, args := args, argTypes := ts }
  · obtain ⟨x, args, ts, hop⟩ := hc
    rw [hop] at h
    simp only [heavyOp] at h
    obtain ⟨f, vs, hr, hcall⟩ := callOp_ok E.gg E.gws I E.spec hop h
    obtain ⟨e, w', fr, ⟨v0, m', rfl, p1, p2, p3⟩, hcomes, _, hleave⟩ := hcall (b.at a (.inRegion ops (i :: rest) :: k) :: cs)
    have henter : Go.step C.P (lone (b.at a (.inRegion ops (i :: rest) :: k)) cs w) =
        .next (lone (Frame.enter C.P f vs .normal) (b.at a (.inRegion ops (i :: rest) :: k) :: cs) w) :=
     step_lone_go (by rw [hg]; simp [stepG.apply, hr, Frame.at])
    refine ⟨a.put o.dst v0, w', m', .head henter (Steps.trans hcomes (.one ?_)), I.set p1 p2 hd p3, p2⟩
    rw [← hfin]
    exact step_leave_returned hleave
  · have hm : memOp C s (o.dst.getD 0) o.op = some (v, hp') := by
      unfold heavyOp at h
      split at h
      · rename_i x args ts hop
        exact absurd ⟨x, args, ts, hop⟩ hc
      · exact h
    obtain ⟨x, u, w', m', h1, h2, h3, h4, h5⟩ := memOp_ok E.tab I hm
    exact fin h1 h2 h3 h4 h5
theorem opStep_ok [Dd] (E : Env C Φ w0 own0) (I : Inv w0 own0 S n s a w m) (ho : ops[i]? = some o) (hd : ∀ d, o.dst = some d → d < n) {v : TV} {hp' : Hp} (h : opStep C Φ ops s o = some (v, hp')) :
    ∃ a' w' m', Steps C.P (lone (b.at a (.inRegion ops (i :: rest) :: k)) cs w) (lone (b.at a' (.inRegion ops rest :: k)) cs w') ∧ Inv w0 own0 S n (s.set o.dst v hp') a' w' m' ∧ Goes s.hp w m hp' w' m' := by
 have skip : Region.wanted o (yielded ops a.tmps) = false → v = .tu [] → hp' = s.hp → ∃ a' w' m', Steps C.P (lone (b.at a (.inRegion ops (i :: rest) :: k)) cs w) (lone (b.at a' (.inRegion ops rest :: k)) cs w') ∧ Inv w0 own0 S n (s.set o.dst v hp') a' w' m' ∧ Goes s.hp w m hp' w' m' := by
  rintro hw rfl rfl
  have hs := step_op_skip (P := C.P) (b := b) (a := a) (k := k) (cs := cs) (w := w) (ops := ops) (i := i) (rest := rest) (by simp [ho]; simpa using hw)
  simp only [ho, Option.bind_some] at hs
  exact ⟨_, w, m, .one hs, I.set I.mem (Goes.refl I.mem) hd (.tu rfl (fun j t hj => by simp at hj)), Goes.refl I.mem⟩
 unfold opStep at h
 split at h
 · rename_i hgd
   exact oneOp_ok E I ho (by simp [Region.wanted, hgd]) hd h
 · rename_i j want hgd
   split at h
   · cases h
   · rename_i g hj
     split at h
     · rename_i b' t hl
       obtain ⟨e, _⟩ := (I.tms _ _ hl).scv
       have hy : yielded ops a.tmps j = some t := by
        unfold yielded
        rw [hj]
        have hlt : g < a.tmps.size := by
         rcases Nat.lt_or_ge g a.tmps.size with h' | h'
         · exact h'
         · rw [Array.getD_eq_getD_getElem?, Array.getElem?_eq_none h'] at e; cases e
        have : a.tmps[g]? = some (.bool t) := by rw [getD_arr hlt, e]
        simp [this]
       cases hc : (t == want) with
       | true =>
        rw [hc] at h
        simp only [cond_true] at h
        refine oneOp_ok E I ho ?_ hd h
        simp only [Region.wanted, hgd, hy]
        simpa using hc
       | false =>
        rw [hc] at h
        simp only [cond_false] at h
        cases h
        refine skip ?_ rfl rfl
        simp only [Region.wanted, hgd, hy]
        simpa using hc
     · rename_i hl
       cases h
       have := I.tms _ _ hl
       have hy : yielded ops a.tmps j = none := by
        unfold yielded
        rw [hj]
        generalize hx : a.tmps.getD g undef = x at this
        cases this with
        | tu hs _ =>
         simp only [Option.bind_some]
         cases hq : a.tmps[g]? with
         | none => rfl
         | some y =>
          have : a.tmps.getD g undef = y := by rw [Array.getD_eq_getD_getElem?, hq]; rfl
          rw [hx] at this
          subst this
          rfl
       refine skip ?_ rfl rfl
       simp only [Region.wanted, hgd, hy]
       rfl
     · cases h
end
end Go.Pm
namespace Go.Pm
open Go
section
variable {C : Cfg} {s s' : St}
theorem evs_congr : ∀ {l : List Operand}, (∀ x ∈ l, s'.ev x = s.ev x) → evs s' l = evs s l
 | [], _ => rfl
 | x :: l, h => by
  simp only [evs]
  rw [h x (by simp), evs_congr (l := l) (fun y hy => h y (by simp [hy]))]
theorem mem_evObjs {l : List Operand} {x : Operand} {t : TV} {q : Nat} (hx : x ∈ l) (ht : s.ev x = some t) (hq : q ∈ objs t) : q ∈ evObjs s l := by
 induction l with
 | nil => cases hx
 | cons y l ih =>
  simp only [evObjs, List.mem_append]
  rcases List.mem_cons.1 hx with rfl | hx
  · left; rw [ht]; exact hq
  · exact .inr (ih hx)
theorem buildUp_congr {fs : List (Nat × Nat)} : ∀ {parts : List (Nat × Operand)} {z : List TV}, (∀ p ∈ parts, s'.ev p.2 = s.ev p.2) → pureOp.buildUp C fs z parts s' = pureOp.buildUp C fs z parts s
 | [], z, _ => rfl
 | (i, x) :: l, z, h => by
  simp only [pureOp.buildUp]
  rw [h (i, x) (by simp)]
  have ih : ∀ z, pureOp.buildUp C fs z l s' = pureOp.buildUp C fs z l s := fun z => buildUp_congr (fun p hp => h p (by simp [hp]))
  simp only [ih]
theorem bound_congr {x : Option Operand} {n : Nat} (h : ∀ y, x = some y → s'.ev y = s.ev y) : pureOp.bound s' x n = pureOp.bound s x n := by
 cases x with
 | none => rfl
 | some y => simp only [pureOp.bound]; rw [h y rfl]
theorem loadAt_congr {hp hp' : Hp} {ti : TI} {x : TV} (h : ∀ q ∈ objs x, look hp' q = look hp q) : loadAt hp' ti x = loadAt hp ti x := by
 cases x with
 | bp o off => simp only [loadAt]; rw [h o (by simp [objs])]
 | ep o i j => simp only [loadAt]; rw [h o (by simp [objs])]
 | np o π i j => simp only [loadAt]; rw [h o (by simp [objs])]
 | dp o cells =>
  cases o with
  | none => rfl
  | some o => simp only [loadAt, dcl]; rw [h o (by simp [objs, ofS])]
 | pv b p => cases p <;> rfl
 | _ => rfl
theorem rowsOf_congr {hp hp' : Hp} {x : TV} (h : ∀ q ∈ objs x, look hp' q = look hp q) : rowsOf hp' x = rowsOf hp x := by
 cases x with
 | ref o off len => simp only [rowsOf]; rw [h o (by simp [objs])]
 | pv b p => cases p <;> rfl
 | _ => rfl
theorem pureOp_congr [Dd] {op : Op} (he : ∀ x ∈ op.operands, s'.ev x = s.ev x) (hh : ∀ q ∈ evObjs s (rdOps op), look s'.hp q = look s.hp q) : pureOp C s' op = pureOp C s op := by
 have obj : rdOps op = op.operands.toList → ∀ {x : Operand} {t : TV}, x ∈ op.operands → s.ev x = some t → ∀ q ∈ objs t, look s'.hp q = look s.hp q := fun hr {x t} hx ht q hq => hh q (by rw [hr]; exact mem_evObjs (by simpa using hx) ht hq)
 cases op with
 | move x | assign x | unOp _ _ x | extract x _ | fieldAddr _ x _ | field _ x _ | nilCheck x => simp only [pureOp]; rw [he x (by simp [Op.operands])]
 | binOp op t x y t' => simp only [pureOp]; rw [he x (by simp [Op.operands]), he y (by simp [Op.operands])]
 | convert src dst x =>
  have hr : ∀ v, s.ev x = some v → rowsOf s'.hp v = rowsOf s.hp v := fun v hx => rowsOf_congr (obj rfl (x := x) (by simp [Op.operands]) hx)
  simp only [pureOp]
  rw [he x (by simp [Op.operands])]
  split
  · simp_all
  · simp_all
  · rename_i v _ h1 h2 h3
    simp only [hr v h3]
  · simp_all
 | index t x i => simp only [pureOp]; rw [he x (by simp [Op.operands]), he i (by simp [Op.operands])]
 | indexAddr t x i =>
  simp only [pureOp]
  rw [he x (by simp [Op.operands]), he i (by simp [Op.operands])]
  cases hx : s.ev x with
  | none => cases C.T t with
   | none => rfl
   | some ti => obtain ⟨_, _, kd, _⟩ := ti; cases kd <;> rfl
  | some v =>
   have ho := obj rfl (x := x) (by simp [Op.operands]) hx
   cases C.T t with
   | none => rfl
   | some ti =>
    obtain ⟨_, _, kd, _⟩ := ti
    cases kd with
    | slice e =>
     cases hi : s.ev i with
     | none => rfl
     | some u =>
      cases u with
      | pv b p =>
       cases p with
       | sc y =>
        cases y with
        | int k n =>
         simp only []
         cases C.T e with
         | none =>
          cases v with
          | pv b p => cases p <;> rfl
          | _ => rfl
         | some ei =>
          cases v with
          | ref o off len => simp only [ho o (by simp [objs])]
          | nr o π off len => simp only [ho o (by simp [objs])]
          | pv b p => cases p <;> rfl
          | _ => rfl
        | _ => rfl
       | _ => rfl
      | _ => rfl
    | arr m e =>
     cases s.ev i with
     | none => rfl
     | some u =>
      cases u with
      | pv b p =>
       cases p with
       | sc y => cases y <;> rfl
       | _ => rfl
      | _ => rfl
    | _ => rfl
 | slice t x lo hi mx =>
  cases mx with
  | some mx =>
   cases lo with
   | none => rfl
   | some lo =>
    cases hi with
    | none => rfl
    | some hi => simp only [pureOp]; rw [he x (by simp [Op.operands]), he lo (by simp [Op.operands]), he hi (by simp [Op.operands]), he mx (by simp [Op.operands])]
  | none =>
   have h1 := he x (by simp [Op.operands])
   have h2 : ∀ n, pureOp.bound s' lo n = pureOp.bound s lo n := fun n => bound_congr (fun y hy => he y (by subst hy; simp [Op.operands]))
   have h3 : ∀ n, pureOp.bound s' hi n = pureOp.bound s hi n := fun n => bound_congr (fun y hy => he y (by subst hy; simp [Op.operands]))
   simp only [pureOp, h2, h3]
   rw [h1]
   cases hx : s.ev x with
   | none => cases C.T t with
    | none => rfl
    | some ti => obtain ⟨_, _, kd, _⟩ := ti; cases kd <;> rfl
   | some v =>
    have ho := obj rfl (x := x) (by simp [Op.operands]) hx
    cases C.T t with
    | none => rfl
    | some ti =>
     obtain ⟨_, _, kd, _⟩ := ti
     cases kd with
     | slice e =>
      cases v with
      | ref o off len =>
       cases pureOp.bound s lo 0 with
       | none => rfl
       | some l => simp only []; rw [ho o (by simp [objs])]
      | nl => cases pureOp.bound s lo 0 <;> rfl
      | pv b p => cases p with
       | sl rows => cases pureOp.bound s lo 0 <;> rfl
       | _ => rfl
      | _ => rfl
     | str =>
      cases v with
      | pv b p => cases p with
       | sc y => cases y with
        | string b => cases pureOp.bound s lo 0 <;> rfl
        | _ => rfl
       | _ => rfl
      | _ => rfl
     | arr n e =>
      cases v with
      | ap o m' =>
       cases pureOp.bound s lo 0 with
       | none => rfl
       | some l => simp only []; rw [ho o (by simp [objs])]
      | _ => rfl
     | _ => rfl
 | makeFunc fn first caps =>
  cases fn with
  | func f =>
   simp only [pureOp]
   rw [evs_congr (s := s) (s' := s') (l := caps.toList) (fun x hx => he x (by simp only [Op.operands]; simp; right; simpa using hx)),
    evs_congr (s := s) (s' := s') (l := first.toList) (fun x hx => he x (by simp only [Op.operands]; simp; left; simpa using hx))]
  | _ => rfl
 | build t parts =>
  have hb : ∀ (fs : List (Nat × Nat)) (z : List TV), pureOp.buildUp C fs z parts.toList s' = pureOp.buildUp C fs z parts.toList s := fun fs z => buildUp_congr (fun p hp => he p.2 (by
   simp only [Op.operands]
   exact List.mem_toArray.2 (List.mem_map.2 ⟨p, hp, rfl⟩)))
  simp only [pureOp, hb]
 | call c =>
  obtain ⟨callee, args, ts⟩ := c
  have ha : ∀ x ∈ args.toList, s'.ev x = s.ev x := fun x hx => he x (by simp only [Op.operands, Call.operands]; simp; right; simpa using hx)
  cases callee with
  | builtin bi =>
   cases bi with
   | len =>
    simp only [pureOp]
    generalize args.toList = l at ha
    generalize ts.toList = l2
    match l, ha, l2 with
    | [], _, _ => rfl
    | [x], ha, [] => rfl
    | [x], ha, [t] => simp only [ha x (by simp)]
    | [x], ha, _ :: _ :: _ => rfl
    | _ :: _ :: _, _, _ => rfl
   | max =>
    simp only [pureOp]
    generalize args.toList = l at ha
    match l, ha with
    | [], _ => rfl
    | [x], _ => rfl
    | [x, y], ha => simp only [ha x (by simp), ha y (by simp)]
    | _ :: _ :: _ :: _, _ => rfl
   | min =>
    simp only [pureOp]
    generalize args.toList = l at ha
    match l, ha with
    | [], _ => rfl
    | [x], _ => rfl
    | [x, y], ha => simp only [ha x (by simp), ha y (by simp)]
    | _ :: _ :: _ :: _, _ => rfl
   | _ => rfl
  | _ => rfl
 | _ => rfl
theorem lightOp_congr [Dd] {op : Op} (he : ∀ x ∈ op.operands, s'.ev x = s.ev x) (hh : ∀ q ∈ evObjs s (rdOps op), look s'.hp q = look s.hp q) : lightOp C s' op = lightOp C s op := by
 cases op with
 | pick c a b => simp only [lightOp]; rw [he c (by simp [Op.operands]), he a (by simp [Op.operands]), he b (by simp [Op.operands])]
 | load t a =>
  simp only [lightOp]
  rw [he a (by simp [Op.operands])]
  cases hx : s.ev a with
  | none => cases C.T t <;> rfl
  | some v =>
   cases C.T t with
   | none => rfl
   | some ti => exact loadAt_congr (fun q hq => hh q (mem_evObjs (show a ∈ (Op.load t a).operands.toList by simp [Op.operands]) hx hq))
 | _ => exact pureOp_congr (C := C) he hh
theorem fillRows_congr {k : Nat} : ∀ {parts : List (Nat × Operand)} {hp : Hp} {rows : List (List PV)}, (∀ p ∈ parts, s'.ev p.2 = s.ev p.2) → fillRows C s' k hp rows parts = fillRows C s k hp rows parts
 | [], hp, rows, _ => rfl
 | (i, x) :: l, hp, rows, h => by
  have ih : ∀ hp rows, fillRows C s' k hp rows l = fillRows C s k hp rows l := fun hp rows => fillRows_congr (fun p hp => h p (by simp [hp]))
  simp only [fillRows, ih]
  rw [h (i, x) (by simp)]
theorem treeRow_congr {att : Bool} {e len : Nat} {ei : TI} (hhp : s'.hp = s.hp) {parts : List (Nat × Operand)} (h : ∀ p ∈ parts, s'.ev p.2 = s.ev p.2) : treeRow att s' e ei len parts = treeRow att s e ei len parts := by
 unfold treeRow
 split
 · rename_i x
   rw [h (0, x) (by simp), hhp]
 · rfl
theorem memOp_congr [Dd] {op : Op} {d : Nat} (hhp : s'.hp = s.hp) (he : ∀ x ∈ op.operands, s'.ev x = s.ev x) : memOp C s' d op = memOp C s d op := by
 cases op with
 | load t a => simp only [memOp, hhp]; rw [he a (by simp [Op.operands])]
 | box t x => simp only [memOp, hhp]; rw [he x (by simp [Op.operands])]
 | alloc t => simp only [memOp, hhp]
 | store t a v => simp only [memOp, hhp]; rw [he a (by simp [Op.operands]), he v (by simp [Op.operands])]
 | makeSlice t a v => simp only [memOp, hhp]; rw [he a (by simp [Op.operands]), he v (by simp [Op.operands])]
 | convert src dst x => simp only [memOp, hhp]; rw [he x (by simp [Op.operands])]
 | buildSlice t len parts =>
  have hb : ∀ k hp rows, fillRows C s' k hp rows parts.toList = fillRows C s k hp rows parts.toList := fun k hp rows => fillRows_congr (fun p hp => he p.2 (by
   simp only [Op.operands]
   exact List.mem_toArray.2 (List.mem_map.2 ⟨p, hp, rfl⟩)))
  have ht : ∀ e ei, treeRow C.att s' e ei len parts.toList = treeRow C.att s e ei len parts.toList := fun e ei => treeRow_congr hhp (fun p hp => he p.2 (by
   simp only [Op.operands]
   exact List.mem_toArray.2 (List.mem_map.2 ⟨p, hp, rfl⟩)))
  simp only [memOp, hhp, hb, ht]
 | call c =>
  obtain ⟨callee, args, ts⟩ := c
  have ha : ∀ x ∈ args.toList, s'.ev x = s.ev x := fun x hx => he x (by simp only [Op.operands, Call.operands]; simp; right; simpa using hx)
  cases callee with
  | builtin bi =>
   cases bi with
   | append =>
    simp only [memOp, hhp]
    generalize args.toList = l at ha
    generalize ts.toList = l2
    match l, ha, l2 with
    | [], _, _ => rfl
    | [x], _, _ => rfl
    | [x, y], ha, [] => rfl
    | [x, y], ha, [t] => rfl
    | [x, y], ha, [t, t'] => simp only [ha x (by simp), ha y (by simp)]
    | [x, y], ha, _ :: _ :: _ :: _ => rfl
    | _ :: _ :: _ :: _, _, _ => rfl
   | clear =>
    simp only [memOp, hhp]
    generalize args.toList = l at ha
    generalize ts.toList = l2
    match l, ha, l2 with
    | [], _, _ => rfl
    | [x], ha, [] => rfl
    | [x], ha, [t] => simp only [ha x (by simp)]
    | [x], ha, _ :: _ :: _ => rfl
    | _ :: _ :: _, _, _ => rfl
   | _ => rfl
  | _ => rfl
 | _ => rfl
theorem heavyOp_congr [Dd] {Φ : FuncId → List TV → Hp → Option Res} {op : Op} {d : Nat} (hhp : s'.hp = s.hp) (he : ∀ x ∈ op.operands, s'.ev x = s.ev x) : heavyOp C Φ s' d op = heavyOp C Φ s d op := by
 by_cases hc : ∃ x args ts, op = .call { callee := .value x, args := args, argTypes := ts }
 · obtain ⟨x, args, ts, rfl⟩ := hc
   have ha : evs s' args.toList = evs s args.toList := evs_congr (fun y hy => he y (by simp only [Op.operands, Call.operands]; simp; right; simpa using hy))
   have hx : s'.ev x = s.ev x := he x (by simp [Op.operands, Call.operands])
   simp only [heavyOp, callOp, callAt, callDeep, callFresh, callStd, calleeOf, ha, hx, hhp]
 · have e : ∀ s : St, heavyOp C Φ s d op = memOp C s d op := fun s => by
     unfold heavyOp
     split
     · rename_i x args ts; exact absurd ⟨x, args, ts, rfl⟩ hc
     · rfl
   rw [e, e, memOp_congr hhp he]
theorem looksAt_ev {o : Oper} {ops : Array Oper} (h : ∀ t ∈ o.looksAt ops, look s'.tm t = look s.tm t) : ∀ x ∈ o.op.operands, s'.ev x = s.ev x := by
 intro x hx
 cases x with
 | tmp t =>
  simp only [St.ev]
  refine h t (List.mem_append_left _ (List.mem_filterMap.2 ⟨.tmp t, by simpa using hx, rfl⟩))
 | const v => rfl
 | func f => rfl
 | global g => rfl
theorem opStep_heavy [Dd] {Φ : FuncId → List TV → Hp → Option Res} {o : Oper} {ops : Array Oper} (hhp : s'.hp = s.hp) (h : ∀ t ∈ o.looksAt ops, look s'.tm t = look s.tm t) : opStep C Φ ops s' o = opStep C Φ ops s o := by
 have he := looksAt_ev h
 have h1 : oneOp C Φ s' o = oneOp C Φ s o := by
  unfold oneOp
  rw [heavyOp_congr hhp he, lightOp_congr he (fun q _ => by rw [hhp]), hhp]
 unfold opStep
 cases hg : o.guard with
 | none => exact h1
 | some g =>
  obtain ⟨j, want⟩ := g
  dsimp only
  cases hj : (ops[j]?).bind (·.dst) with
  | none => rfl
  | some g =>
   dsimp only
   rw [h g (List.mem_append_right _ (by simp [hg, hj])), h1, hhp]
theorem opStep_light [Dd] {Φ : FuncId → List TV → Hp → Option Res} {o : Oper} {ops : Array Oper} (hl : isLight C.bs o.op = true) {v : TV} {hp1 : Hp} (hst : opStep C Φ ops s o = some (v, hp1)) : hp1 = s.hp ∧
    ∀ {s' : St}, (∀ t ∈ o.looksAt ops, look s'.tm t = look s.tm t) → (∀ q ∈ evObjs s (rdOps o.op), look s'.hp q = look s.hp q) → opStep C Φ ops s' o = some (v, s'.hp) := by
 have one : ∀ {v hp1}, oneOp C Φ s o = some (v, hp1) → hp1 = s.hp ∧ ∀ {s' : St}, (∀ t ∈ o.looksAt ops, look s'.tm t = look s.tm t) → (∀ q ∈ evObjs s (rdOps o.op), look s'.hp q = look s.hp q) → oneOp C Φ s' o = some (v, s'.hp) := by
  intro v hp1 h
  unfold oneOp at h
  rw [hl] at h
  simp only [cond_true] at h
  split at h
  · rename_i v' hv
    cases h
    refine ⟨rfl, fun h1 h2 => ?_⟩
    unfold oneOp
    rw [hl]
    simp only [cond_true]
    rw [lightOp_congr (looksAt_ev h1) h2, hv]
  · cases h
 unfold opStep at hst
 cases hg : o.guard with
 | none =>
  rw [hg] at hst
  obtain ⟨a, b⟩ := one hst
  refine ⟨a, fun h1 h2 => ?_⟩
  unfold opStep
  rw [hg]
  exact b h1 h2
 | some g =>
  obtain ⟨j, want⟩ := g
  rw [hg] at hst
  dsimp only at hst
  cases hj : (ops[j]?).bind (·.dst) with
  | none => rw [hj] at hst; cases hst
  | some g =>
   rw [hj] at hst
   dsimp only at hst
   have key : ∀ {s' : St}, (∀ t ∈ o.looksAt ops, look s'.tm t = look s.tm t) → look s'.tm g = look s.tm g := fun h1 => h1 g (List.mem_append_right _ (by simp [hg, hj]))
   split at hst
   · rename_i b t hl'
     cases hc : (t == want) with
     | true =>
      rw [hc] at hst
      obtain ⟨a, b⟩ := one hst
      refine ⟨a, fun h1 h2 => ?_⟩
      unfold opStep
      rw [hg]
      dsimp only
      rw [hj]
      dsimp only
      rw [key h1, hl']
      dsimp only
      rw [hc]
      exact b h1 h2
     | false =>
      rw [hc] at hst
      cases hst
      refine ⟨rfl, fun h1 h2 => ?_⟩
      unfold opStep
      rw [hg]
      dsimp only
      rw [hj]
      dsimp only
      rw [key h1, hl']
      dsimp only
      rw [hc]
      rfl
   · rename_i hl'
     cases hst
     refine ⟨rfl, fun h1 h2 => ?_⟩
     unfold opStep
     rw [hg]
     dsimp only
     rw [hj]
     dsimp only
     rw [key h1, hl']
   · cases hst
end
end Go.Pm
namespace Go.Pm
open Go
theorem keep_frame [Dd] {hp hp' : Hp} {t : TV} {p : PV} (h : keep hp t = some (p, hp')) {q : Nat} {ob : OB} (hl : look hp q = some ob) (hq : q ∉ objs t) : look hp' q = some ob := by
 unfold keep at h
 split at h
 · cases h; exact hl
 · cases h; exact hl
 · rename_i o off len
   split at h
   · rename_i st e k rows ho
     split at h
     · split at h
       · cases h; exact hl
       · cases h
     · split at h
       · cases h
         rw [look_put_other _ _ (fun e => hq (by simp [objs, e]))]
         exact hl
       · cases h
   · cases h
 · split at h
   · split at h
     · cases h
       rw [look_put_other _ _ (fun e => hq (by simp [objs, e]))]
       exact hl
     · cases h
   · cases h
 · cases h
theorem keeps_frame [Dd] : ∀ {cs : List TV} {hp hp' : Hp} {ps : List PV}, keeps hp cs = some (ps, hp') → ∀ {q : Nat} {ob : OB}, look hp q = some ob → q ∉ objs.objsL cs → look hp' q = some ob := by
 intro cs
 induction cs with
 | nil => intro hp hp' ps h q ob hl _; cases h; exact hl
 | cons t l ih =>
  intro hp hp' ps h q ob hl hq
  simp only [keeps] at h
  simp only [objs.objsL, List.mem_append, not_or] at hq
  split at h
  · cases h
  · rename_i p hp1 h1
    split at h
    · cases h
    · rename_i ps' hp2 h2
      cases h
      exact ih h2 (keep_frame h1 hl hq.1) hq.2
theorem cells_objs {t : TV} {cs : List TV} (h : t.cells = some cs) {q : Nat} (hq : q ∉ objs t) : q ∉ objs.objsL cs := by
 cases t <;> simp [TV.cells] at h <;> subst h <;> first | (simp [objs, objs.objsL]; done) | simpa [objs, objs.objsL] using hq
theorem storeAt_frame [Dd] {hp hp' : Hp} {ti : TI} {v x : TV} (h : storeAt hp ti v x = some hp') {q : Nat} {ob : OB} (hl : look hp q = some ob) (hx : q ∉ objs x) (hv : q ∉ objs v) : look hp' q = some ob := by
 unfold storeAt at h
 split at h
 · rename_i o off
   have hne : q ≠ o := fun e => hx (by simp [objs, e])
   split at h
   · split at h
     · split at h
       · cases h; rw [look_put_other _ _ hne]; exact hl
       · cases h
     · cases h
   · split at h
     · split at h
       · cases h; rw [look_put_other _ _ hne]; exact hl
       · cases h
     · split at h
       · cases h; rw [look_put_other _ _ hne]; exact hl
       · cases h
     · cases h
   · cases h
 · rename_i o i j
   have hne : q ≠ o := fun e => hx (by simp [objs, e])
   split at h
   · rename_i vs hc
     split at h
     · rename_i new hp1 hk
       have := keeps_frame hk hl (cells_objs hc hv)
       split at h
       · split at h
         · split at h
           · cases h; rw [look_put_other _ _ hne]; exact this
           · cases h
         · cases h
       · cases h
     · cases h
   · cases h
 · rename_i o π i j
   have hne : q ≠ o := fun e => hx (by simp [objs, e])
   split at h
   · split at h
     · split at h
       · split at h
         · split at h
           · split at h
             · cases h; rw [look_put_other _ _ hne]; exact hl
             · cases h
           · cases h
         · cases h
       · cases h
     · cases h
   · cases h
 · rename_i o cells
   have hne : q ≠ o := fun e => hx (by simp [objs, ofS, e])
   split at h
   · split at h
     · split at h
       · split at h
         · cases h; rw [look_put_other _ _ hne]; exact hl
         · cases h
       · cases h
     · cases h
   · cases h
 · cases h
theorem add_frame [Dd] {hp hp' : Hp} {i : Nat} {ob' : OB} (h : add hp i ob' = some hp') {q : Nat} {ob : OB} (hl : look hp q = some ob) : look hp' q = some ob := by
 obtain ⟨_, h1, rfl⟩ := add_some h
 rw [look_put_other _ _ (fun e => by rw [e, h1] at hl; cases hl)]
 exact hl
theorem asTree_objs {hp : Hp} {t : TV} {o : Nat} {st : RS} {rows : List (List PV)} (h : asTree hp t = some (o, st, rows)) : o ∈ objs t := by
 unfold asTree at h
 split at h
 · split at h
   · split at h
     · cases h; simp [objs]
     · cases h
   · cases h
 · split at h
   · split at h
     · cases h; simp [objs]
     · cases h
   · cases h
 · cases h
theorem absorbs_frame [Dd] : ∀ {cs : List TV} {hp hp' : Hp} {ps : List PV} {b : Bool}, absorbs hp cs = some (ps, b, hp') → ∀ {q : Nat} {ob : OB}, look hp q = some ob → q ∉ objs.objsL cs → look hp' q = some ob := by
 intro cs
 induction cs with
 | nil => intro hp hp' ps b h q ob hl _; cases h; exact hl
 | cons t l ih =>
  intro hp hp' ps b h q ob hl hq
  simp only [absorbs] at h
  simp only [objs.objsL, List.mem_append, not_or] at hq
  split at h
  rotate_left
  · cases h
  rename_i p b1 hp1 hc
  split at h
  rotate_left
  · cases h
  rename_i ps' b2 hp2 hr
  cases h
  refine ih hr ?_ hq.2
  unfold absorbC at hc
  split at hc
  · cases hc; exact hl
  · cases hc; exact hl
  · split at hc
    · rename_i o st rows ha
      cases hc
      have hne : q ≠ o := fun e => hq.1 (by rw [e]; exact asTree_objs ha)
      rw [look_put_other _ _ hne]
      exact hl
    · cases hc
section
variable {C : Cfg} {s : St}
theorem treeRow_frame [Dd] {att : Bool} {e len : Nat} {ei : TI} {parts : List (Nat × Operand)} {row : List PV} {b : Bool} {hp' : Hp} (h : treeRow att s e ei len parts = some (row, b, hp')) {q : Nat} {ob : OB} (hl : look s.hp q = some ob) (hq : q ∉ evObjs s (parts.map (·.2))) : look hp' q = some ob := by
 unfold treeRow at h
 split at h
 · rename_i x
   split at h
   · rename_i v hv
     split at h
     · rename_i vs hvs
       cases ht : vs.any (TV.isNr att) with
       | false => rw [ht] at h; cases h
       | true =>
        rw [ht] at h
        simp only [cond_true] at h
        split at h
        · refine absorbs_frame h hl (cells_objs hvs fun hin => hq ?_)
          simp only [List.map_cons, List.map_nil, evObjs, hv, List.append_nil]
          exact hin
        · cases h
     · cases h
   · cases h
 · cases h
theorem fillRows_frame [Dd] {k : Nat} : ∀ {parts : List (Nat × Operand)} {hp hp' : Hp} {rows rows' : List (List PV)}, fillRows C s k hp rows parts = some (rows', hp') → ∀ {q : Nat} {ob : OB}, look hp q = some ob → q ∉ evObjs s (parts.map (·.2)) → look hp' q = some ob := by
 intro parts
 induction parts with
 | nil => intro hp hp' rows rows' h q ob hl _; cases h; exact hl
 | cons x l ih =>
  obtain ⟨i, x⟩ := x
  intro hp hp' rows rows' h q ob hl hq
  simp only [fillRows] at h
  simp only [List.map_cons, evObjs, List.mem_append, not_or] at hq
  split at h
  · cases h
  · rename_i v hv
    rw [hv] at hq
    split at h
    · cases h
    · rename_i vs hc
      split at h
      · cases h
      · rename_i new hp1 hk
        split at h
        · exact ih h (keeps_frame hk hl (cells_objs hc hq.1)) hq.2
        · cases h
theorem not_evObjs [Dd] {l : List Operand} {x : Operand} {t : TV} {q : Nat} (h : q ∉ evObjs s l) (hx : x ∈ l) (ht : s.ev x = some t) : q ∉ objs t := fun hq => h (mem_evObjs hx ht hq)
theorem memOp_frame [Dd] {d : Nat} {op : Op} {v : TV} {hp' : Hp} (h : memOp C s d op = some (v, hp')) {q : Nat} {ob : OB} (hl : look s.hp q = some ob) (hq2 : q ∉ evObjs s (writes op) ++ nrObjs s (srcOps op)) : look hp' q = some ob := by
 have hq' : q ∉ evObjs s (writes op) := fun h => hq2 (List.mem_append.2 (.inl h))
 have hq3 : q ∉ nrObjs s (srcOps op) := fun h => hq2 (List.mem_append.2 (.inr h))
 clear hq2
 cases op with
 | load t a =>
  simp only [memOp] at h
  split at h
  · split at h
    · cases h; exact hl
    · cases h
  · cases h
 | store t a x =>
  simp only [memOp] at h
  split at h
  · rename_i ti y z h1 h2 h3
    split at h
    · rename_i hp1 hs
      cases h
      exact storeAt_frame hs hl (not_evObjs hq' (by simp [writes, Op.operands]) h2) (not_evObjs hq' (by simp [writes, Op.operands]) h3)
    · cases h
  · cases h
 | box t x =>
  simp only [memOp] at h
  split at h
  · split at h
    · split at h
      · rename_i hp1 ha; cases h; exact add_frame ha hl
      · cases h
    · cases h
  · cases h
 | alloc t =>
  simp only [memOp] at h
  split at h
  · split at h
    · split at h
      · rename_i hp1 ha; cases h; exact add_frame ha hl
      · cases h
    split at h
    · split at h
      · rename_i hp1 ha; cases h; exact add_frame ha hl
      · cases h
    · cases h
  · cases h
 | makeSlice t a b =>
  simp only [memOp] at h
  split at h
  · split at h
    · split at h
      · split at h
        · split at h
          · rename_i hp1 ha; cases h; exact add_frame ha hl
          · cases h
        · cases h
      · cases h
    · cases h
  · cases h
 | convert src dst x =>
  simp only [memOp] at h
  split at h
  · split at h
    · split at h
      · rename_i hp1 ha0
        cases h
        split at ha0
        · exact add_frame ha0 hl
        · cases ha0
      · cases h
    · cases h
  · rename_i o off len h1 h2 h3
    have hne : q ≠ o := fun e => (not_evObjs hq' (by simp [writes, Op.operands]) h3) (by simp [objs, e])
    split at h
    · split at h
      · cases h; rw [look_put_other _ _ hne]; exact hl
      · cases h
    · cases h
  · cases h
 | buildSlice t len parts =>
  simp only [memOp] at h
  split at h
  · split at h
    · split at h
      · rename_i row b hp1 htr
        split at h
        · rename_i hp2 ha
          cases h
          exact add_frame ha (treeRow_frame htr hl (by simpa [writes, Op.operands] using hq'))
        · cases h
      split at h
      · split at h
        · split at h
          · rename_i rows hp1 hf
            split at h
            · rename_i hp2 ha
              cases h
              exact add_frame ha (fillRows_frame hf hl (by simpa [writes, Op.operands] using hq'))
            · cases h
          · cases h
        · cases h
      · cases h
    · cases h
  · cases h
 | call c =>
  obtain ⟨callee, args, ts⟩ := c
  cases callee with
  | builtin bi =>
   cases bi with
   | append =>
    simp only [memOp] at h
    split at h
    · rename_i x y t t' hargs hts
      have hx : ∀ {u : TV}, s.ev x = some u → q ∉ objs u := fun hu => not_evObjs hq' (by simp [writes, hargs]) hu
      split at h
      · rename_i e ti' dst src h1 h2 h3 h4
        split at h
        · split at h
          · rename_i rr htr
            cases h
            split at htr
            rotate_left
            · cases htr
            unfold treeApp at htr
            split at htr
            rotate_left
            · cases htr
            rename_i q' π off len
            split at htr
            rotate_left
            · cases htr
            rename_i o2 st2 news ha
            have ho2 : o2 = q' := by simpa [objs] using asTree_objs ha
            have hne2 : q ≠ o2 := fun e => hq3 (by
             simp only [srcOps, hargs, List.drop_succ_cons, List.drop_zero, nrObjs, h4, List.append_nil]
             rw [e, ho2]; simp)
            split at htr
            rotate_left
            · cases htr
            split at htr
            · split at htr
              rotate_left
              · cases htr
              split at htr
              rotate_left
              · cases htr
              rename_i hp1 hadd
              cases htr
              exact add_frame hadd (by rw [look_put_other _ _ hne2]; exact hl)
            · split at htr
              rotate_left
              · cases htr
              rename_i o1 st1 rows1 hau
              have hne1 : q ≠ o1 := fun e => hx h3 (by rw [e]; exact asTree_objs hau)
              split at htr
              rotate_left
              · cases htr
              split at htr
              rotate_left
              · cases htr
              rename_i hp1 hadd
              cases htr
              exact add_frame hadd (by rw [look_put_other _ _ hne2, look_put_other _ _ hne1]; exact hl)
          rename_i hnotree
          clear hnotree
          split at h
          · split at h
            · split at h
              · split at h
                · split at h
                  · rename_i hp1 ha; cases h; exact add_frame ha hl
                  · cases h
                · cases h
              · rename_i o off len
                have hne : q ≠ o := fun e => hx h3 (by simp [objs, e])
                split at h
                · split at h
                  · split at h
                    · cases h; rw [look_put_other _ _ hne]; exact hl
                    · cases h
                  split at h
                  · split at h
                    · split at h
                      · rename_i hp1 ha
                        cases h
                        exact add_frame ha (by rw [look_put_other _ _ hne]; exact hl)
                      · cases h
                    · cases h
                  · cases h
                · cases h
              · cases h
            · cases h
          · cases h
        · cases h
      · cases h
    · cases h
   | clear =>
    simp only [memOp] at h
    split at h
    · rename_i x t hargs hts
      have hx : ∀ {u : TV} {z : Operand}, z ∈ args.toList → s.ev z = some u → q ∉ objs u := fun hz hu => not_evObjs hq' (by simpa [writes, Op.operands, Call.operands] using hz) hu
      split at h
      · rename_i e o off len h1 h2
        have hne : q ≠ o := fun e => hx (by rw [hargs]; simp) h2 (by simp [objs, e])
        split at h
        · split at h
          · split at h
            · cases h; rw [look_put_other _ _ hne]; exact hl
            · cases h
          · cases h
        · cases h
      · cases h
    · cases h
   | _ => simp [memOp] at h
  | _ => simp [memOp] at h
 | _ => simp [memOp] at h
theorem heavyOp_frame [Dd] {Φ : FuncId → List TV → Hp → Option Res} {d : Nat} {op : Op} {v : TV} {hp' : Hp} (h : heavyOp C Φ s d op = some (v, hp')) {q : Nat} {ob : OB} (hl : look s.hp q = some ob) (hq : q ∉ touched C s op) : look hp' q = some ob := by
 by_cases hcall : ∃ x args ts, op = .call { callee := .value x, args := args, argTypes := ts }
 · obtain ⟨x, args, ts, rfl⟩ := hcall
   simp only [heavyOp] at h
   simp only [touched] at hq
   unfold callOp at h
   split at h
   · rename_i f first caps as hc ha
     dsimp only at hc ha
     rw [hc, ha] at hq
     dsimp only at h hq
     unfold callAt at h
     cases hdp : isDeep (C.sg f).io (first ++ (as ++ caps)) with
     | true =>
      rw [hdp] at h
      simp only [cond_true] at h
      unfold callDeep at h
      split at h
      · split at h
        · rename_i r out hr
          cases hfl : flatT r && flatH out with
          | false => rw [hfl] at h; cases h
          | true =>
           rw [hfl] at h
           simp only [cond_true] at h
           split at h
           · rename_i hp1 hnew
             cases h
             exact (newH_ok hnew).2.2 q ob hl
           · cases h
        · cases h
      · cases h
     | false =>
      rw [hdp] at h
      simp only [cond_false] at h
      split at h
      · unfold callFresh at h
        split at h
        · split at h
          · rename_i x hp1 ho ha
            cases h
            exact add_frame ha hl
          · cases h
        · cases h
      · unfold callStd at h
        dsimp only at h
        split at h
        · split at h
          · split at h
            · rename_i r out hr
              split at h
              · rename_i hp1 hnew
                cases h
                obtain ⟨n1, n2⟩ := reach_ok s.hp 64 (given (C.sg f).io (first ++ (as ++ caps))) [] (by simp) (by simp)
                refine (newH_ok hnew).2.2 q ob ?_
                rw [look_retH n1]
                cases hp : pos (reach s.hp 64 (given (C.sg f).io (first ++ (as ++ caps))) []) q with
                | none => exact hl
                | some i => exact absurd (pos_of_mem hp) hq
              · cases h
            · cases h
          · cases h
        · cases h
   · cases h
 · have e : heavyOp C Φ s d op = memOp C s d op := by
     unfold heavyOp
     split
     · rename_i x args ts; exact absurd ⟨x, args, ts, rfl⟩ hcall
     · rfl
   rw [e] at h
   refine memOp_frame h hl ?_
   have e2 : touched C s op = evObjs s (writes op) ++ nrObjs s (srcOps op) := by
    unfold touched
    split
    · rename_i x args ts; exact absurd ⟨x, args, ts, rfl⟩ hcall
    · rfl
   rw [← e2]
   exact hq
theorem opStep_frame [Dd] {Φ : FuncId → List TV → Hp → Option Res} {o : Oper} {ops : Array Oper} {v : TV} {hp' : Hp} (hv : isLight C.bs o.op = false) (h : opStep C Φ ops s o = some (v, hp')) {q : Nat} {ob : OB} (hl : look s.hp q = some ob) (hq : q ∉ touched C s o.op) : look hp' q = some ob := by
 have one : ∀ {v hp'}, oneOp C Φ s o = some (v, hp') → look hp' q = some ob := by
  intro v hp' h
  unfold oneOp at h
  rw [hv] at h
  exact heavyOp_frame h hl hq
 unfold opStep at h
 split at h
 · exact one h
 · split at h
   · cases h
   · split at h
     · rename_i b t _
       cases hc : (t == _) with
       | true => rw [hc] at h; exact one h
       | false => rw [hc] at h; cases h; exact hl
     · cases h; exact hl
     · cases h
end
end Go.Pm
namespace Go.Pm
open Go
abbrev Rc := Nat × St × TV
def opnds (ops : Array Oper) (i : Nat) : List Operand := match ops[i]? with
 | some o => rdOps o.op
 | none => []
def Ov (ops : Array Oper) (recs : List Rc) (X : Nat → Prop) (s0 : St) (tm : List (Nat × TV)) : Prop :=
 ∀ t, (∀ r ∈ recs, X r.1 → dstAt ops r.1 = some t → look tm t = some r.2.2) ∧ ((∀ r ∈ recs, X r.1 → dstAt ops r.1 ≠ some t) → look tm t = look s0.tm t)
inductive Canon (C : Cfg) (Φ : FuncId → List TV → Hp → Option Res) (ops : Array Oper) (s0 : St) : List Rc → St → Prop
 | nil : Canon C Φ ops s0 [] s0
 | cons {recs : List Rc} {s : St} {i : Nat} {o : Oper} {v : TV} {hp : Hp} : Canon C Φ ops s0 recs s → ops[i]? = some o → opStep C Φ ops s o = some (v, hp) → (∀ r ∈ recs, pairOk ops r.1 i = true) → (∀ r ∈ recs, r.1 ≠ i) →
     (∀ z ∈ waits ops i, ∃ r ∈ recs, r.1 = z) → Canon C Φ ops s0 ((i, s, v) :: recs) (s.set o.dst v hp)
section
variable {C : Cfg} {Φ : FuncId → List TV → Hp → Option Res} {ops : Array Oper} {s0 : St}
theorem pair1 {x y : Nat} (h : pairOk ops x y = true) {d : Tmp} (hd : dstAt ops x = some d) (hl : d ∈ looks ops y) : x ∈ waits ops y := by
 unfold pairOk at h
 rw [hd] at h
 simp only [Bool.and_eq_true, Bool.or_eq_true, Bool.not_eq_true', List.contains_eq_mem, decide_eq_false_iff_not, decide_eq_true_eq] at h
 rcases h.1.1 with h | h
 · exact absurd hl h
 · exact h
theorem pair2 {x y : Nat} (h : pairOk ops x y = true) {d : Tmp} (hd : dstAt ops x = some d) : dstAt ops y ≠ some d := by
 unfold pairOk at h
 rw [hd] at h
 simp only [Bool.and_eq_true, bne_iff_ne, ne_eq] at h
 exact h.1.2
theorem pair3 {x y : Nat} (h : pairOk ops x y = true) {d : Tmp} (hd : dstAt ops y = some d) (hl : d ∈ looks ops x) : x ∈ waits ops y := by
 unfold pairOk at h
 rw [hd] at h
 simp only [Bool.and_eq_true, Bool.or_eq_true, Bool.not_eq_true', List.contains_eq_mem, decide_eq_false_iff_not, decide_eq_true_eq] at h
 rcases h.2 with h | h
 · exact absurd hl h
 · exact h
theorem dstAt_eq {i : Nat} {o : Oper} (h : ops[i]? = some o) : dstAt ops i = o.dst := by simp [dstAt, h]
theorem looks_eq {i : Nat} {o : Oper} (h : ops[i]? = some o) : looks ops i = o.looksAt ops := by simp [looks, h]
theorem canon_ov [Dd] {recs : List Rc} {s : St} (h : Canon C Φ ops s0 recs s) : Ov ops recs (fun _ => True) s0 s.tm := by
 induction h with
 | nil => exact fun t => ⟨fun r hr => (by cases hr), fun _ => rfl⟩
 | @cons recs s i o v hp hc ho hs hp1 hp2 hw ih =>
  intro t
  have hdst := dstAt_eq ho
  refine ⟨fun r hr _ hd => ?_, fun hno => ?_⟩
  · rcases List.mem_cons.1 hr with rfl | hr
    · rw [hdst] at hd
      rw [hd]
      exact look_put_same _ _ _
    · have h1 := (ih t).1 r hr trivial hd
      have hne := pair2 (hp1 r hr) hd
      rw [hdst] at hne
      cases hod : o.dst with
      | none => exact h1
      | some d =>
       rw [hod] at hne
       simp only [St.set]
       rw [look_put_other _ _ (fun e => hne (by rw [e]))]
       exact h1
  · have h1 := (ih t).2 (fun r hr _ => hno r (List.mem_cons_of_mem _ hr) trivial)
    have h2 := hno (i, s, v) (List.mem_cons_self ..) trivial
    rw [hdst] at h2
    cases hod : o.dst with
    | none => exact h1
    | some d =>
     rw [hod] at h2
     simp only [St.set]
     rw [look_put_other _ _ (fun e => h2 (by rw [e]))]
     exact h1
theorem canon_split {r : Rc} {r1 : List Rc} : ∀ {r2 : List Rc} {s : St}, Canon C Φ ops s0 (r2 ++ r :: r1) s → Canon C Φ ops s0 r1 r.2.1 ∧ (∃ o hp, ops[r.1]? = some o ∧ opStep C Φ ops r.2.1 o = some (r.2.2, hp)) ∧
    (∀ r' ∈ r1, pairOk ops r'.1 r.1 = true ∧ r'.1 ≠ r.1) ∧ (∀ r' ∈ r2, pairOk ops r.1 r'.1 = true ∧ r'.1 ≠ r.1) ∧ ∀ z ∈ waits ops r.1, ∃ r' ∈ r1, r'.1 = z := by
 intro r2
 induction r2 with
 | nil =>
  intro s h
  cases h with
  | cons hc ho hs hp1 hp2 hw => exact ⟨hc, ⟨_, _, ho, hs⟩, fun r' hr => ⟨hp1 r' hr, hp2 r' hr⟩, fun r' hr => (by cases hr), hw⟩
 | cons y l ih =>
  intro s h
  cases h with
  | cons hc ho hs hp1 hp2 hw =>
   obtain ⟨a, b, c, d, e⟩ := ih hc
   refine ⟨a, b, c, fun r' hr => ?_, e⟩
   rcases List.mem_cons.1 hr with rfl | hr
   · exact ⟨hp1 r (by simp), fun e => hp2 r (by simp) e.symm⟩
   · exact d r' hr
theorem behind_done {D : Nat → Prop} (down : ∀ i, D i → ∀ z ∈ waits ops i, D z) : ∀ (n : Nat) {x y : Nat}, (∀ z ∈ waits ops y, D z) → behind ops n x y = true → D x := by
 intro n
 induction n with
 | zero => intro x y _ h; simp [behind] at h
 | succ n ih =>
  intro x y hy h
  simp only [behind, List.any_eq_true, Bool.or_eq_true, beq_iff_eq] at h
  obtain ⟨z, hz, h⟩ := h
  rcases h with h | h
  · rw [← h]; exact hy z hz
  · exact ih (down z (hy z hz)) h
theorem canGo_iff {done : List Nat} {i : Nat} (h : canGo ops done i = true) : i ∉ done ∧ ∀ z ∈ waits ops i, z ∈ done := by
 simp only [canGo, Bool.and_eq_true, Bool.not_eq_true', List.contains_eq_mem, decide_eq_false_iff_not, List.all_eq_true, decide_eq_true_eq] at h
 exact h
theorem tstep_at {s0 sP : St} {i : Nat} {L : List Nat} {rd rd' : List (Nat × List Nat)} {s1 : St} (h : tstep C Φ ops i L rd sP = some (s1, rd')) : ∃ o v hp, ops[i]? = some o ∧ opStep C Φ ops sP o = some (v, hp) ∧
    s1 = sP.set o.dst v hp ∧ rd' = (i, evObjs sP (opnds ops i)) :: rd ∧ (isLight C.bs o.op = true → ∀ q ∈ evObjs sP (opnds ops i), ∃ ob, look sP.hp q = some ob) ∧
    (isLight C.bs o.op = false → ∀ x ∈ rd, x.1 ∈ L → ∀ q ∈ x.2, q ∉ touched C sP o.op) := by
 have _ := s0
 unfold tstep at h
 split at h
 · cases h
 · rename_i o ho
   have eo : opnds ops i = rdOps o.op := by simp [opnds, ho]
   rw [eo]
   generalize hc : (bif isLight C.bs o.op then (evObjs sP (rdOps o.op)).all (fun q => (look sP.hp q).isSome) else rd.all (fun x => !L.contains x.1 || apartL x.2 (touched C sP o.op))) = c at h
   cases c with
   | false => cases h
   | true =>
    simp only [cond_true] at h
    split at h
    · rename_i v hp hs
      cases h
      refine ⟨o, v, hp, ho, hs, rfl, rfl, fun hl q hq => ?_, fun hl x hx hxL q hq => ?_⟩
      · rw [hl] at hc
        simp only [cond_true, List.all_eq_true] at hc
        exact Option.isSome_iff_exists.1 (hc q hq)
      · rw [hl] at hc
        simp only [cond_false, List.all_eq_true, Bool.or_eq_true, Bool.not_eq_true', List.contains_eq_mem, decide_eq_false_iff_not, apartL] at hc
        rcases hc x hx with h | h
        · exact absurd hxL h
        · simpa using h q hq
    · cases h
inductive Good (C : Cfg) (Φ : FuncId → List TV → Hp → Option Res) (ops : Array Oper) (s' : St) : List Nat → List (Nat × List Nat) → St → Prop
 | fin {done : List Nat} {rd : List (Nat × List Nat)} : (∀ j, j < ops.size → j ∈ done) → Good C Φ ops s' done rd s'
 | lt {done : List Nat} {rd rd' : List (Nat × List Nat)} {sP s1 : St} {i : Nat} : canGo ops done i = true → i < ops.size → lightAt C.bs ops i = true → (∀ x ∈ done, pairOk ops x i = true) → tstep C Φ ops i [] rd sP = some (s1, rd') →
     Good C Φ ops s' (i :: done) rd' s1 → Good C Φ ops s' done rd sP
 | hv {done : List Nat} {rd : List (Nat × List Nat)} {sP : St} (nx : Nat → St × List (Nat × List Nat)) : (∃ i, i < ops.size ∧ canGo ops done i = true) → (∀ i, i < ops.size → canGo ops done i = true → lightAt C.bs ops i = false) →
     (∀ i, i < ops.size → canGo ops done i = true → ∀ x ∈ done, pairOk ops x i = true) → (∀ i, i < ops.size → canGo ops done i = true → tstep C Φ ops i (beside C.bs ops done i) rd sP = some (nx i)) →
     (∀ i, i < ops.size → canGo ops done i = true → Good C Φ ops s' (i :: done) (nx i).2 (nx i).1) → Good C Φ ops s' done rd sP
theorem good_of : ∀ (t : PT) {top : Bool} {done : List Nat} {rd : List (Nat × List Nat)} {sP s' : St}, treeOk C.bs ops top t done = true → trun C Φ ops t rd sP = some s' →
    (top = true → Good C Φ ops s' done rd sP) ∧ (∀ i ∈ t.alts, canGo ops done i = true ∧ i < ops.size ∧ lightAt C.bs ops i = false ∧ (∀ x ∈ done, pairOk ops x i = true) ∧ ∃ s1 rd', tstep C Φ ops i (beside C.bs ops done i) rd sP = some (s1, rd') ∧ Good C Φ ops s' (i :: done) rd' s1) := by
 intro t
 induction t with
 | fin =>
  intro top done rd sP s' ht hr
  cases top with
  | false => simp [treeOk] at ht
  | true =>
   simp only [trun, Option.some.injEq] at hr
   subst hr
   refine ⟨fun _ => .fin fun j hj => ?_, fun i hi => (by cases hi)⟩
   simp only [treeOk] at ht
   have := List.all_eq_true.1 ht j (List.mem_range.2 hj)
   simpa using this
 | no => intro top done rd sP s' ht hr; simp [trun] at hr
 | lt i r ih =>
  intro top done rd sP s' ht hr
  cases top with
  | false => simp [treeOk] at ht
  | true =>
   simp only [treeOk, Bool.and_eq_true, decide_eq_true_eq, List.all_eq_true] at ht
   obtain ⟨⟨⟨⟨h1, h2⟩, h3⟩, h4⟩, h5⟩ := ht
   simp only [trun] at hr
   split at hr
   · rename_i s1 rd' hs
     exact ⟨fun _ => .lt h1 h2 h3 h4 hs ((ih h5 hr).1 rfl), fun i hi => (by cases hi)⟩
   · cases hr
 | hv i L r o ihr iho =>
  intro top done rd sP s' ht hr
  simp only [treeOk, Bool.and_eq_true, decide_eq_true_eq, Bool.not_eq_true', beq_iff_eq, List.all_eq_true] at ht
  obtain ⟨⟨⟨⟨⟨⟨⟨h0, h1⟩, h2⟩, h3⟩, h4⟩, h5⟩, h6⟩, h7⟩ := ht
  subst h4
  simp only [trun] at hr
  split at hr
  · rename_i s1 rd' hs
    split at hr
    · rename_i e he
      have hee : e = s' ∧ (o.isNo = true ∨ trun C Φ ops o rd sP = some e) := by
       cases hn : o.isNo with
       | true => rw [hn] at hr; simp at hr; exact ⟨hr, .inl rfl⟩
       | false =>
        rw [hn] at hr
        simp only [cond_false] at hr
        split at hr
        · rename_i hq; cases hr; exact ⟨rfl, .inr hq⟩
        · cases hr
      obtain ⟨rfl, hno⟩ := hee
      have hall : ∀ j ∈ (PT.hv i (beside C.bs ops done i) r o).alts, canGo ops done j = true ∧ j < ops.size ∧ lightAt C.bs ops j = false ∧ (∀ x ∈ done, pairOk ops x j = true) ∧ ∃ s1 rd', tstep C Φ ops j (beside C.bs ops done j) rd sP = some (s1, rd') ∧ Good C Φ ops e (j :: done) rd' s1 := by
       intro j hj
       simp only [PT.alts, List.mem_cons] at hj
       rcases hj with rfl | hj
       · exact ⟨h1, h2, h3, h5, s1, rd', hs, (ihr h6 he).1 rfl⟩
       · rcases hno with hno | hno
         · cases o <;> simp [PT.isNo] at hno; cases hj
         · exact (iho h7 hno).2 j hj
      refine ⟨fun htop => ?_, hall⟩
      subst htop
      simp only [cond_true, List.all_eq_true, Bool.or_eq_true, Bool.not_eq_true', Bool.and_eq_true, List.contains_eq_mem, decide_eq_true_eq] at h0
      have key : ∀ j, j < ops.size → canGo ops done j = true → lightAt C.bs ops j = false ∧ (∀ x ∈ done, pairOk ops x j = true) ∧ ∃ s1 rd', tstep C Φ ops j (beside C.bs ops done j) rd sP = some (s1, rd') ∧ Good C Φ ops e (j :: done) rd' s1 := by
       intro j hj hc
       rcases h0 j (List.mem_range.2 hj) with h | ⟨_, h⟩
       · rw [hc] at h; cases h
       · obtain ⟨_, _, a, b, c⟩ := hall j (by simpa [PT.alts] using h)
         exact ⟨a, b, c⟩
      refine .hv (fun j => (tstep C Φ ops j (beside C.bs ops done j) rd sP).getD (sP, rd)) ⟨i, h2, h1⟩ (fun j hj hc => (key j hj hc).1) (fun j hj hc => (key j hj hc).2.1) (fun j hj hc => ?_) (fun j hj hc => ?_)
      · obtain ⟨_, _, s1, rd', h, _⟩ := key j hj hc
        rw [h]; rfl
      · obtain ⟨_, _, s1, rd', h, g⟩ := key j hj hc
        rw [h]; exact g
    · cases hr
  · cases hr
structure Sim (C : Cfg) (Φ : FuncId → List TV → Hp → Option Res) (ops : Array Oper) (s0 s' : St) (D : Nat → Prop) (sD : St) (recs : List Rc) (rd : List (Nat × List Nat)) (sP : St) (done : List Nat) : Prop where
 canon : Canon C Φ ops s0 recs sP
 sub : ∀ i, D i → ∃ r ∈ recs, r.1 = i
 down : ∀ i, D i → ∀ z ∈ waits ops i, D z
 heavy : ∀ r ∈ recs, lightAt C.bs ops r.1 = false → D r.1
 ov : Ov ops recs D s0 sD.tm
 hp : sD.hp = sP.hp
 reads : ∀ r ∈ recs, ¬ D r.1 → ∀ q ∈ evObjs r.2.1 (opnds ops r.1), ∃ ob, look r.2.1.hp q = some ob ∧ look sP.hp q = some ob
 rdm : ∀ r ∈ recs, (r.1, evObjs r.2.1 (opnds ops r.1)) ∈ rd
 good : Good C Φ ops s' done rd sP
 dn : ∀ i, i ∈ done ↔ ∃ r ∈ recs, r.1 = i
variable {s' : St} {D : Nat → Prop} {sD : St} {recs : List Rc} {rd : List (Nat × List Nat)} {sP : St} {done : List Nat}
theorem light_eq {i : Nat} {o : Oper} (h : ops[i]? = some o) : lightAt C.bs ops i = isLight C.bs o.op := by simp [lightAt, h]
theorem set_hp (s : St) (d : Option Nat) (v : TV) (hp : Hp) : (s.set d v hp).hp = hp := by cases d <;> rfl
def Stop (C : Cfg) (Φ : FuncId → List TV → Hp → Option Res) (ops : Array Oper) (s' : St) (done : List Nat) (rd : List (Nat × List Nat)) (sP : St) : Prop :=
 (s' = sP ∧ ∀ j, j < ops.size → j ∈ done) ∨ ((∃ i, i < ops.size ∧ canGo ops done i = true) ∧ ∀ i, i < ops.size → canGo ops done i = true → lightAt C.bs ops i = false ∧ (∀ x ∈ done, pairOk ops x i = true) ∧
     ∃ s1 rd', tstep C Φ ops i (beside C.bs ops done i) rd sP = some (s1, rd') ∧ Good C Φ ops s' (i :: done) rd' s1)
theorem Sim.advance [Dd] {recs : List Rc} {rd : List (Nat × List Nat)} {sP : St} {done : List Nat} (h : Sim C Φ ops s0 s' D sD recs rd sP done) :
    ∃ recs rd sP done, Sim C Φ ops s0 s' D sD recs rd sP done ∧ Stop C Φ ops s' done rd sP := by
 have hg := h.good
 induction hg generalizing recs with
 | fin hd => exact ⟨recs, _, _, _, h, .inl ⟨rfl, hd⟩⟩
 | hv nx h1 h2 h3 h4 h5 => exact ⟨recs, _, _, _, h, .inr ⟨h1, fun i hi hc => ⟨h2 i hi hc, h3 i hi hc, (nx i).1, (nx i).2, h4 i hi hc, h5 i hi hc⟩⟩⟩
 | @lt done rd rd' sP s1 i h1 h2 hl h4 hst hgr ih =>
     obtain ⟨o, v, hp, ho, hs, rfl, rfl, hex, _⟩ := tstep_at (s0 := s0) hst
     have hlo : isLight C.bs o.op = true := by rw [← light_eq ho]; exact hl
     obtain ⟨rfl, _⟩ := opStep_light hlo hs
     have hnD : ¬ D i := fun hd => (canGo_iff h1).1 ((h.dn i).2 (h.sub i hd))
     have hni : ∀ r ∈ recs, r.1 ≠ i := fun r hr e => (canGo_iff h1).1 ((h.dn i).2 ⟨r, hr, e⟩)
     refine ih (recs := (i, sP, v) :: recs) ⟨?_, ?_, h.down, ?_, ?_, ?_, ?_, ?_, hgr, ?_⟩
     · exact .cons h.canon ho hs (fun r hr => h4 r.1 ((h.dn r.1).2 ⟨r, hr, rfl⟩)) hni (fun z hz => (h.dn z).1 ((canGo_iff h1).2 z hz))
     · intro j hj; obtain ⟨r, hr, e⟩ := h.sub j hj; exact ⟨r, List.mem_cons_of_mem _ hr, e⟩
     · intro r hr' hh
       rcases List.mem_cons.1 hr' with rfl | hr'
       · rw [hl] at hh; cases hh
       · exact h.heavy r hr' hh
     · intro t
       refine ⟨fun r hr' hd he => ?_, fun hno => (h.ov t).2 (fun r hr' => hno r (List.mem_cons_of_mem _ hr'))⟩
       rcases List.mem_cons.1 hr' with rfl | hr'
       · exact absurd hd hnD
       · exact (h.ov t).1 r hr' hd he
     · rw [set_hp]; exact h.hp
     · intro r hr' hd q hq
       rw [set_hp]
       rcases List.mem_cons.1 hr' with rfl | hr'
       · obtain ⟨ob, hob⟩ := hex hlo q hq; exact ⟨ob, hob, hob⟩
       · exact h.reads r hr' hd q hq
     · intro r hr'
       rcases List.mem_cons.1 hr' with rfl | hr'
       · exact List.mem_cons_self ..
       · exact List.mem_cons_of_mem _ (h.rdm r hr')
     · intro j
       constructor
       · intro hj
         rcases List.mem_cons.1 hj with rfl | hj
         · exact ⟨_, List.mem_cons_self .., rfl⟩
         · obtain ⟨r, hr, e⟩ := (h.dn j).1 hj; exact ⟨r, List.mem_cons_of_mem _ hr, e⟩
       · rintro ⟨r, hr', e⟩
         rcases List.mem_cons.1 hr' with rfl | hr'
         · rw [← e]; exact List.mem_cons_self ..
         · exact List.mem_cons_of_mem _ ((h.dn j).2 ⟨r, hr', e⟩)
theorem Sim.all [Dd] (h : Sim C Φ ops s0 s' D sD recs rd sP done) (hst : Stop C Φ ops s' done rd sP) (hno : ∀ j, j < ops.size → (∀ z ∈ waits ops j, D z) → D j) : s' = sP ∧ ∀ t, look sD.tm t = look sP.tm t := by
 have hall : ∀ (r1 r2 : List Rc), recs = r2 ++ r1 → ∀ r ∈ r1, D r.1 := by
  intro r1
  induction r1 with
  | nil => intro r2 _ r hr; cases hr
  | cons y l ih =>
   intro r2 e r hr
   have hl := ih (r2 ++ [y]) (by simp [e])
   rcases List.mem_cons.1 hr with rfl | hr
   · have hc := h.canon
     rw [e] at hc
     obtain ⟨_, ⟨o, hp, ho, _⟩, _, _, hw⟩ := canon_split hc
     refine hno r.1 (Array.getElem?_eq_some_iff.1 ho).1 (fun z hz => ?_)
     obtain ⟨r', hr', e'⟩ := hw z hz
     rw [← e']
     exact hl r' hr'
   · exact hl r hr
 have hD : ∀ r ∈ recs, D r.1 := hall recs [] rfl
 have this : s' = sP := by
  rcases hst with ⟨e, _⟩ | ⟨⟨i, h2, h1⟩, _⟩
  · exact e
  · refine absurd ((h.dn i).2 (h.sub i (hno i h2 fun z hz => ?_))) (canGo_iff h1).1
    obtain ⟨r, hr, e⟩ := (h.dn z).1 ((canGo_iff h1).2 z hz)
    rw [← e]
    exact hD r hr
 refine ⟨this, fun t => ?_⟩
 have hc := canon_ov h.canon t
 have ho := h.ov t
 by_cases hex : ∃ r ∈ recs, dstAt ops r.1 = some t
 · obtain ⟨r, hr, e⟩ := hex
   rw [ho.1 r hr (hD r hr) e, hc.1 r hr trivial e]
 · rw [ho.2 (fun r hr _ e => hex ⟨r, hr, e⟩), hc.2 (fun r hr _ e => hex ⟨r, hr, e⟩)]
theorem Sim.next [Dd] (h : Sim C Φ ops s0 s' D sD recs rd sP done) (hst : Stop C Φ ops s' done rd sP) {x : Nat} (hlt : x < ops.size) (hx : ¬ D x) (hw : ∀ z ∈ waits ops x, D z) :
    ∃ o v hp, ops[x]? = some o ∧ opStep C Φ ops sD o = some (v, hp) ∧ ∃ recs rd sP done, Sim C Φ ops s0 s' (fun i => D i ∨ i = x) (sD.set o.dst v hp) recs rd sP done := by
 have hdown : ∀ i, (D i ∨ i = x) → ∀ z ∈ waits ops i, (D z ∨ z = x) := by
  rintro i (hi | rfl) z hz
  · exact .inl (h.down i hi z hz)
  · exact .inl (hw z hz)
 have light : ∀ r ∈ recs, r.1 = x → ∃ o v hp, ops[x]? = some o ∧ opStep C Φ ops sD o = some (v, hp) ∧ ∃ recs rd sP done, Sim C Φ ops s0 s' (fun i => D i ∨ i = x) (sD.set o.dst v hp) recs rd sP done := by
  intro r hr e
  subst e
  obtain ⟨r2, r1, er⟩ := List.append_of_mem hr
  have hc := h.canon
  rw [er] at hc
  obtain ⟨c1, ⟨o, hp, ho, hs⟩, c3, c4, c5⟩ := canon_split hc
  have hlx : lightAt C.bs ops r.1 = true := by
   cases hl : lightAt C.bs ops r.1 with
   | true => rfl
   | false => exact absurd (h.heavy r hr hl) hx
  have hlo : isLight C.bs o.op = true := by rw [← light_eq ho]; exact hlx
  have hov := canon_ov c1
  have hpair : ∀ r' ∈ recs, r'.1 = r.1 → r' = r := by
   intro r' hr' e
   rw [er] at hr'
   rcases List.mem_append.1 hr' with h' | h'
   · exact absurd e (c4 r' h').2
   · rcases List.mem_cons.1 h' with h' | h'
     · exact h'
     · exact absurd e (c3 r' h').2
  have agree : ∀ t ∈ o.looksAt ops, look sD.tm t = look r.2.1.tm t := by
   intro t ht
   by_cases hex : ∃ r' ∈ r1, dstAt ops r'.1 = some t
   · obtain ⟨r', hr', e⟩ := hex
     have hD : D r'.1 := hw _ (pair1 (c3 r' hr').1 e (by rw [looks_eq ho]; exact ht))
     rw [(h.ov t).1 r' (by rw [er]; simp [hr']) hD e, (hov t).1 r' hr' trivial e]
   · rw [(hov t).2 (fun r' hr' _ e => hex ⟨r', hr', e⟩)]
     refine (h.ov t).2 (fun r' hr' hd e => ?_)
     rw [er] at hr'
     rcases List.mem_append.1 hr' with h' | h'
     · exact hx (h.down _ hd _ (pair3 (c4 r' h').1 e (by rw [looks_eq ho]; exact ht)))
     · rcases List.mem_cons.1 h' with h' | h'
       · rw [h'] at hd; exact hx hd
       · exact hex ⟨r', h', e⟩
  have eo : opnds ops r.1 = rdOps o.op := by simp [opnds, ho]
  obtain ⟨rfl, hl2⟩ := opStep_light hlo hs
  have hstep := hl2 agree (fun q hq => by
   obtain ⟨ob, a, b⟩ := h.reads r hr hx q (by rw [eo]; exact hq)
   rw [h.hp, a, b])
  refine ⟨o, r.2.2, sD.hp, ho, hstep, recs, rd, sP, done, h.canon, ?_, hdown, fun r' hr' hh => .inl (h.heavy r' hr' hh), ?_, ?_, fun r' hr' hd => h.reads r' hr' (fun hd' => hd (.inl hd')), h.rdm, h.good, h.dn⟩
  · rintro i (hi | rfl)
    · exact h.sub i hi
    · exact ⟨r, hr, rfl⟩
  · intro t
    have hdst := dstAt_eq ho
    refine ⟨fun r' hr' hd e => ?_, fun hno => ?_⟩
    · by_cases e' : r'.1 = r.1
      · rw [hpair r' hr' e'] at e ⊢
        rw [hdst] at e
        rw [e]
        exact look_put_same _ _ _
      · have hd' : D r'.1 := hd.resolve_right e'
        have h1 := (h.ov t).1 r' hr' hd' e
        have hne : dstAt ops r.1 ≠ some t := by
         rw [er] at hr'
         rcases List.mem_append.1 hr' with h' | h'
         · exact fun e2 => pair2 (c4 r' h').1 e2 e
         · rcases List.mem_cons.1 h' with h' | h'
           · exact absurd (by rw [h']) e'
           · exact pair2 (c3 r' h').1 e
        rw [hdst] at hne
        cases hod : o.dst with
        | none => exact h1
        | some d =>
         rw [hod] at hne
         simp only [St.set]
         rw [look_put_other _ _ (fun e => hne (by rw [e]))]
         exact h1
    · have h1 := (h.ov t).2 (fun r' hr' hd => hno r' hr' (.inl hd))
      have h2 := hno r hr (.inr rfl)
      rw [hdst] at h2
      cases hod : o.dst with
      | none => exact h1
      | some d =>
       rw [hod] at h2
       simp only [St.set]
       rw [look_put_other _ _ (fun e => h2 (by rw [e]))]
       exact h1
  · rw [set_hp]; exact h.hp
 by_cases hxd : x ∈ done
 · obtain ⟨r, hr, e⟩ := (h.dn x).1 hxd
   exact light r hr e
 · have h1 : canGo ops done x = true := by
     simp only [canGo, Bool.and_eq_true, Bool.not_eq_true', List.contains_eq_mem, decide_eq_false_iff_not, List.all_eq_true, decide_eq_true_eq]
     exact ⟨hxd, fun z hz => (h.dn z).2 (h.sub z (hw z hz))⟩
   rcases hst with ⟨_, hall⟩ | ⟨_, hall⟩
   · exact absurd (hall x hlt) hxd
   · obtain ⟨hlz, h4, s1, rd', hts, hgr⟩ := hall x hlt h1
     obtain ⟨z, rfl⟩ : ∃ z, z = x := ⟨x, rfl⟩
     obtain ⟨o, v, hp, ho, hs, rfl, rfl, _, htc⟩ := tstep_at (s0 := s0) hts
     have hlo : isLight C.bs o.op = false := by rw [← light_eq ho]; exact hlz
     have hni : ∀ r ∈ recs, r.1 ≠ z := fun r hr e => (canGo_iff h1).1 ((h.dn z).2 ⟨r, hr, e⟩)
     have hpr : ∀ r ∈ recs, pairOk ops r.1 z = true := fun r hr => h4 r.1 ((h.dn r.1).2 ⟨r, hr, rfl⟩)
     have hov := canon_ov h.canon
     have agree : ∀ t ∈ o.looksAt ops, look sD.tm t = look sP.tm t := by
      intro t ht
      by_cases hex : ∃ r' ∈ recs, dstAt ops r'.1 = some t
      · obtain ⟨r', hr', e⟩ := hex
        have hD : D r'.1 := hw _ (pair1 (hpr r' hr') e (by rw [looks_eq ho]; exact ht))
        rw [(h.ov t).1 r' hr' hD e, (hov t).1 r' hr' trivial e]
      · rw [(hov t).2 (fun r' hr' _ e => hex ⟨r', hr', e⟩), (h.ov t).2 (fun r' hr' _ e => hex ⟨r', hr', e⟩)]
     have hstep : opStep C Φ ops sD o = some (v, hp) := by rw [opStep_heavy h.hp agree]; exact hs
     have hdst := dstAt_eq ho
     refine ⟨o, v, hp, ho, hstep, (z, sP, v) :: recs, _, sP.set o.dst v hp, z :: done, ?_, ?_, hdown, ?_, ?_, ?_, ?_, ?_, hgr, ?_⟩
     · exact .cons h.canon ho hs hpr hni (fun q hq => (h.dn q).1 ((canGo_iff h1).2 q hq))
     · rintro j (hj | rfl)
       · obtain ⟨r, hr, e⟩ := h.sub j hj; exact ⟨r, List.mem_cons_of_mem _ hr, e⟩
       · exact ⟨_, List.mem_cons_self .., rfl⟩
     · intro r hr' hh
       rcases List.mem_cons.1 hr' with rfl | hr'
       · exact .inr rfl
       · exact .inl (h.heavy r hr' hh)
     · intro t
       refine ⟨fun r hr' hd e => ?_, fun hno => ?_⟩
       · rcases List.mem_cons.1 hr' with rfl | hr'
         · rw [hdst] at e
           rw [e]
           exact look_put_same _ _ _
         · have h1 := (h.ov t).1 r hr' (hd.resolve_right (hni r hr')) e
           have hne := pair2 (hpr r hr') e
           rw [hdst] at hne
           cases hod : o.dst with
           | none => exact h1
           | some d =>
            rw [hod] at hne
            simp only [St.set]
            rw [look_put_other _ _ (fun e => hne (by rw [e]))]
            exact h1
       · have h1 := (h.ov t).2 (fun r hr' hd => hno r (List.mem_cons_of_mem _ hr') (.inl hd))
         have h2 := hno (z, sP, v) (List.mem_cons_self ..) (.inr rfl)
         rw [hdst] at h2
         cases hod : o.dst with
         | none => exact h1
         | some d =>
          rw [hod] at h2
          simp only [St.set]
          rw [look_put_other _ _ (fun e => h2 (by rw [e]))]
          exact h1
     · rw [set_hp, set_hp]
     · intro r hr' hd q hq
       rw [set_hp]
       rcases List.mem_cons.1 hr' with rfl | hr'
       · exact absurd (.inr rfl) hd
       · have hnd : ¬ D r.1 := fun h' => hd (.inl h')
         obtain ⟨ob, a, b⟩ := h.reads r hr' hnd q hq
         refine ⟨ob, a, opStep_frame hlo hs b ?_⟩
         refine htc hlo _ (h.rdm r hr') ?_ q hq
         simp only [beside, List.mem_filter, Bool.and_eq_true, Bool.not_eq_true']
         refine ⟨(h.dn r.1).2 ⟨r, hr', rfl⟩, ?_, ?_⟩
         · cases hl : lightAt C.bs ops r.1 with
           | true => rfl
           | false => exact absurd (h.heavy r hr' hl) hnd
         · cases hb : behind ops 6 r.1 z with
           | false => rfl
           | true => exact absurd (behind_done h.down 6 hw hb) hnd
     · intro r hr'
       rcases List.mem_cons.1 hr' with rfl | hr'
       · exact List.mem_cons_self ..
       · exact List.mem_cons_of_mem _ (h.rdm r hr')
     · intro j
       constructor
       · intro hj
         rcases List.mem_cons.1 hj with rfl | hj
         · exact ⟨_, List.mem_cons_self .., rfl⟩
         · obtain ⟨r, hr, e⟩ := (h.dn j).1 hj; exact ⟨r, List.mem_cons_of_mem _ hr, e⟩
       · rintro ⟨r, hr', e⟩
         rcases List.mem_cons.1 hr' with rfl | hr'
         · rw [← e]; exact List.mem_cons_self ..
         · exact List.mem_cons_of_mem _ ((h.dn j).2 ⟨r, hr', e⟩)
end
end Go.Pm
namespace Go.Pm
open Go
theorem Inv.world [Dd] {w0 : World} {own0 S : Nat → Prop} {n : Nat} {s : St} {a : Act} {w w' : World} {m : Mp} (I : Inv w0 own0 S n s a w m) (on : On w w') (h : ∀ b, b < w.heap.size → w'.heap[b]? = w.heap[b]?) :
    Inv w0 own0 S n s a w' m ∧ Goes s.hp w m s.hp w' m :=
 have g := Goes.world I.mem on h
 ⟨⟨I.mem.world on h, fun t x hx => g.repT (I.tms t x hx), I.defers, I.size⟩, g⟩
theorem Inv.look_eq [Dd] {w0 : World} {own0 S : Nat → Prop} {n : Nat} {s s' : St} {a : Act} {w : World} {m : Mp} (I : Inv w0 own0 S n s a w m) (hp : s.hp = s'.hp) (ht : ∀ t, look s.tm t = look s'.tm t) : Inv w0 own0 S n s' a w m := by
 obtain ⟨tm, h⟩ := s
 obtain ⟨tm', h'⟩ := s'
 dsimp only at hp ht
 subst hp
 exact ⟨I.mem, fun t x hx => I.tms t x (by dsimp only; rw [ht]; exact hx), I.defers, I.size⟩
def dstsOk (n : Nat) (ops : Array Oper) : Bool := ops.all fun o => match o.dst with
 | some d => decide (d < n)
 | none => true
theorem dstsOk_get {n : Nat} {ops : Array Oper} (h : dstsOk n ops = true) {i : Nat} {o : Oper} (ho : ops[i]? = some o) {d : Nat} (hd : o.dst = some d) : d < n := by
 have := Array.all_eq_true_iff_forall_mem.1 h o (Array.mem_of_getElem? ho)
 rw [hd] at this
 simpa using this
section
variable {C : Cfg} {Φ : FuncId → List TV → Hp → Option Res} {w0 : World} {own0 S : Nat → Prop} {nt : Nat} {ops : Array Oper} {s0 s' : St} {b : Frame} {k : List Item} {cs : List Frame}
theorem undone_less {listed : Array Bool} {i : Nat} (hs : listed.size = ops.size) (hi : i < ops.size) (hn : listed.getD i true = false) :
    ((List.range ops.size).filter fun j => !(listed.setIfInBounds i true).getD j true).length < ((List.range ops.size).filter fun j => !listed.getD j true).length := by
 have e : ((List.range ops.size).filter fun j => !(listed.setIfInBounds i true).getD j true) = ((List.range ops.size).filter fun j => !listed.getD j true).filter (fun j => decide (j ≠ i)) := by
  rw [List.filter_filter]
  congr 1
  funext j
  by_cases e : j = i
  · subst e
    have : j < listed.size := by omega
    simp [Array.getD_eq_getD_getElem?, this]
  · rw [getD_set_ne true (Ne.symm e)]; simp [e]
 rw [e]
 refine Nat.lt_of_le_of_ne (List.length_filter_le _ _) (fun he => ?_)
 have := List.length_filter_eq_length_iff.1 he i (List.mem_filter.2 ⟨List.mem_range.2 hi, by simp [hn]⟩)
 simp at this
theorem go_ok [Dd] (E : Env C Φ w0 own0) (hd : dstsOk nt ops = true) : ∀ (fuel t : Nat) (listed : Array Bool) {sD : St} {a : Act} {w : World} {m : Mp} {recs : List Rc} {rd : List (Nat × List Nat)} {sP : St} {done : List Nat},
    listed.size = ops.size → ((List.range ops.size).filter fun j => !listed.getD j true).length ≤ fuel → Sim C Φ ops s0 s' (fun i => listed.getD i false = true) sD recs rd sP done → Inv w0 own0 S nt sD a w m →
    ∃ a' w' m', Steps C.P (lone (b.at a (.inRegion ops (Region.linearise.go .any ops fuel t listed []) :: k)) cs w) (lone (b.at a' k) cs w') ∧ Inv w0 own0 S nt s' a' w' m' ∧ Goes sD.hp w m s'.hp w' m' := by
 intro fuel
 have flip : ∀ {listed : Array Bool} {j : Nat}, listed.size = ops.size → j < ops.size → (listed.getD j true = false ↔ ¬ listed.getD j false = true) := by
  intro listed j hs hj
  have : j < listed.size := by omega
  simp [Array.getD_eq_getD_getElem?, this]
 have wt : ∀ {listed : Array Bool} {j : Nat}, j ∈ Region.ready .any ops listed ↔ (j < ops.size ∧ listed.getD j true = false ∧ ∀ z ∈ waits ops j, listed.getD z false = true) := by
  intro listed j
  rw [mem_ready]
  constructor
  · rintro ⟨h1, o, ho, h2⟩
    refine ⟨(Array.getElem?_eq_some_iff.1 ho).1, h1, fun z hz => ?_⟩
    simp only [waits, ho, List.mem_map, List.mem_filter] at hz
    obtain ⟨e, ⟨he, hb⟩, rfl⟩ := hz
    exact h2 e (by simpa using he) hb
  · rintro ⟨h0, h1, h2⟩
    refine ⟨h1, ops[j], Array.getElem?_eq_getElem h0, fun e he hb => ?_⟩
    refine h2 e.on ?_
    simp only [waits, Array.getElem?_eq_getElem h0, List.mem_map, List.mem_filter]
    exact ⟨e, ⟨by simpa using he, hb⟩, rfl⟩
 have fin : ∀ {listed : Array Bool} {sD : St} {a : Act} {w : World} {m : Mp} {recs : List Rc} {rd : List (Nat × List Nat)} {sP : St} {done : List Nat}, listed.size = ops.size →
     Region.ready .any ops listed = [] → Sim C Φ ops s0 s' (fun i => listed.getD i false = true) sD recs rd sP done → Inv w0 own0 S nt sD a w m →
     ∃ a' w' m', Steps C.P (lone (b.at a (.inRegion ops [] :: k)) cs w) (lone (b.at a' k) cs w') ∧ Inv w0 own0 S nt s' a' w' m' ∧ Goes sD.hp w m s'.hp w' m' := by
  intro listed sD a w m recs rd sP done hs hr h I
  obtain ⟨recs, rd, sP, done, h, hrem⟩ := h.advance
  obtain ⟨e, hl⟩ := h.all hrem (fun j hj hw => by
   cases hb : listed.getD j false with
   | true => rfl
   | false =>
    have : j ∈ Region.ready .any ops listed := wt.2 ⟨hj, (flip hs hj).2 (by rw [hb]; simp), hw⟩
    rw [hr] at this; cases this)
  subst e
  refine ⟨a, w, m, .one step_region_end, I.look_eq h.hp hl, ?_⟩
  rw [← h.hp]
  exact Goes.refl I.mem
 induction fuel with
 | zero =>
  intro t listed sD a w m recs rd sP done hs hc h I
  refine fin hs ?_ h I
  cases hr : Region.ready .any ops listed with
  | nil => rfl
  | cons j l =>
   have hj : j ∈ Region.ready .any ops listed := by rw [hr]; exact List.mem_cons_self ..
   obtain ⟨h1, h2, _⟩ := wt.1 hj
   have : j ∈ (List.range ops.size).filter fun j => !listed.getD j true := List.mem_filter.2 ⟨List.mem_range.2 h1, by simp [h2]⟩
   have := List.length_pos_of_mem this
   omega
 | succ fuel ih =>
  intro t listed sD a w m recs rd sP done hs hc h I
  simp only [Region.linearise.go]
  change ∃ a' w' m', Steps C.P (lone (b.at a (.inRegion ops (match (Region.ready .any ops listed)[t % (Region.ready .any ops listed).length]? with
   | some i => Region.linearise.go .any ops fuel (t / (Region.ready .any ops listed).length) (listed.setIfInBounds i true) [i]
   | none => [].reverse) :: k)) cs w) (lone (b.at a' k) cs w') ∧ _
  cases hi : (Region.ready .any ops listed)[t % (Region.ready .any ops listed).length]? with
  | none =>
   have hnil : Region.ready .any ops listed = [] := by
    cases hr : Region.ready .any ops listed with
    | nil => rfl
    | cons x xs =>
     rw [hr] at hi
     have hlt : t % (x :: xs).length < (x :: xs).length := Nat.mod_lt _ (by simp)
     simp at hi
     simp at hlt
     omega
   exact fin hs hnil h I
  | some i =>
   dsimp only
   rw [linearise_go_acc, List.reverse_singleton, List.singleton_append]
   obtain ⟨h1, h2, h3⟩ := wt.1 (List.mem_of_getElem? hi)
   obtain ⟨recs, rd, sP, done, h, hrem⟩ := h.advance
   obtain ⟨o, v, hp, ho, hst, recs', rd', sP', done', h'⟩ := h.next hrem h1 ((flip hs h1).1 h2) h3
   obtain ⟨a1, w1, m1, hsteps, I1, g1⟩ := opStep_ok (b := b) (k := k) (cs := cs) (rest := Region.linearise.go .any ops fuel (t / (Region.ready .any ops listed).length) (listed.setIfInBounds i true) []) E I ho (fun d hd' => dstsOk_get hd ho hd') hst
   have hD : (fun j => (listed.setIfInBounds i true).getD j false = true) = (fun j => (fun j => listed.getD j false = true) j ∨ j = i) := by
    funext j
    refine propext ⟨fun hj => ?_, fun hj => ?_⟩
    · by_cases e : j = i
      · exact .inr e
      · rw [getD_set_ne false (Ne.symm e)] at hj; exact .inl hj
    · rcases hj with hj | rfl
      · exact getD_set_true hj
      · have : j < listed.size := by omega
        simp [Array.getD_eq_getD_getElem?, this]
   rw [← hD] at h'
   obtain ⟨a2, w2, m2, hst2, I2, g2⟩ := ih (t / (Region.ready .any ops listed).length) (listed.setIfInBounds i true) (by simpa using hs) (by have := undone_less hs h1 h2; omega) h' I1
   rw [set_hp] at g2
   exact ⟨a2, w2, m2, hsteps.trans hst2, I2, g1.trans g2⟩
theorem draw_ok [Dd] (E : Env C Φ w0 own0) (hm : C.P.follows .mixedOrders = true) (hd : dstsOk nt ops = true) {l : PT} (hp : plan C.bs ops = some l) (hr : trun C Φ ops l [] s0 = some s') {a : Act} {w : World} {m : Mp} (I : Inv w0 own0 S nt s0 a w m) {id : Nat} :
    ∃ a' w' m', Steps C.P (lone (b.at a (.code (.region id ops true) :: k)) cs w) (lone (b.at a' k) cs w') ∧ Inv w0 own0 S nt s' a' w' m' ∧ Goes s0.hp w m s'.hp w' m' := by
 obtain ⟨I1, g1⟩ := I.world (w' := { w with drawn := w.drawn + 1 }) ⟨rfl, rfl, rfl, Nat.le_refl _, fun _ => Nat.le_succ _⟩ (fun _ _ => rfl)
 have hz : ∀ j, ¬ (Array.replicate ops.size false).getD j false = true := by
  intro j
  by_cases hj : j < ops.size
  · simp [Array.getD_eq_getD_getElem?, hj]
  · rw [Array.getD_eq_getD_getElem?, Array.getElem?_eq_none (by simpa using hj)]; simp
 have h : Sim C Φ ops s0 s' (fun i => (Array.replicate ops.size false).getD i false = true) s0 [] [] s0 [] := by
  have hok : treeOk C.bs ops true l [] = true := by
   unfold plan at hp
   dsimp only at hp
   split at hp
   · rename_i h; cases hp; exact h
   · cases hp
  refine ⟨.nil, fun i hi => absurd hi (hz i), fun i hi => absurd hi (hz i), fun r hr => (by cases hr), fun t => ⟨fun r hr => (by cases hr), fun _ => rfl⟩, rfl, fun r hr => (by cases hr), fun r hr => (by cases hr), (good_of l hok hr).1 rfl, fun i => ⟨fun h => (by cases h), fun ⟨r, hr, _⟩ => (by cases hr)⟩⟩
 obtain ⟨a', w', m', h1, h2, h3⟩ := go_ok (b := b) (k := k) (cs := cs) E hd ops.size (w.tape w.drawn (.order b.fn id)) (Array.replicate ops.size false) (by simp) (by
  refine Nat.le_trans (List.length_filter_le _ _) (by simp)) h I1
 refine ⟨a', w', m', .head step_region_draw ?_, h2, g1.trans h3⟩
 simp only [Region.schedule, hm, Bool.true_or, if_true]
 exact h1
end
end Go.Pm
namespace Go.Pm
open Go
def codeOk (n : Nat) : Code → Bool
 | .region _ ops _ => dstsOk n ops
 | .seq x y => codeOk n x && codeOk n y
 | .cond _ x y => codeOk n x && codeOk n y
 | .block _ x => codeOk n x
 | .loop x => codeOk n x
 | _ => true
structure Prog [Dd] (C : Cfg) : Prop where
 tab : TabOk C
 mixed : C.P.follows .mixedOrders = true
 name : ∀ (f : FuncId) (fn : Func), C.P.funcs[f]? = some fn → (fn.name == "runtime.NumGoroutine") = false
 dsts : ∀ (f : FuncId) (fn : Func) (c : Code), C.P.funcs[f]? = some fn → fn.body = some c → codeOk fn.ntmps c = true
 ext : ∀ f ts hp r out, C.ext f ts hp = some (r, out) → SpecF C f ts hp r out
 gws : GwSt C
inductive ItsOk (n : Nat) : List It → List Item → Prop
 | nil : ItsOk n [] []
 | c {c : Code} {k : List It} {K : List Item} : codeOk n c = true → ItsOk n k K → ItsOk n (.c c :: k) (.code c :: K)
 | blk {id : Nat} {k : List It} {K : List Item} : ItsOk n k K → ItsOk n (.blk id :: k) (.inBlock id :: K)
 | lp {c : Code} {D : List Nat} {k : List It} {K : List Item} : codeOk n c = true → ItsOk n k K → ItsOk n (.lp c D :: k) (.inLoop c :: K)
 | new {c : Code} {D : List Nat} {k : List It} {K : List Item} : codeOk n c = true → ItsOk n k K → ItsOk n (.lp c D :: k) (.code (.loop c) :: K)
 | rg {ops : Array Oper} {l : List Nat} {k : List It} {K : List Item} : dstsOk n ops = true → ItsOk n k K → ItsOk n (.rg ops l :: k) (.inRegion ops l :: K)
theorem exitIt_ok {n : Nat} {id : Nat} : ∀ {k : List It} {K : List Item} {k' : List It}, ItsOk n k K → exitIt id k = some k' → ∃ K', exitTo id K = some K' ∧ ItsOk n k' K' := by
 intro k
 induction k with
 | nil => intro K k' _ h; cases h
 | cons x k ih =>
  intro K k' h he
  cases h with
  | c _ h => obtain ⟨K', h1, h2⟩ := ih h he; exact ⟨K', by simpa [exitTo] using h1, h2⟩
  | lp _ h => obtain ⟨K', h1, h2⟩ := ih h he; exact ⟨K', by simpa [exitTo] using h1, h2⟩
  | new _ h => obtain ⟨K', h1, h2⟩ := ih h he; exact ⟨K', by simpa [exitTo] using h1, h2⟩
  | rg _ h => obtain ⟨K', h1, h2⟩ := ih h he; exact ⟨K', by simpa [exitTo] using h1, h2⟩
  | blk h =>
   simp only [exitIt] at he
   split at he
   · rename_i e
     subst e
     cases he
     exact ⟨_, by simp [exitTo], h⟩
   · rename_i e
     obtain ⟨K', h1, h2⟩ := ih h he
     refine ⟨K', ?_, h2⟩
     simp only [exitTo]
     rw [if_neg (by simpa using e)]
     exact h1
theorem look_number : ∀ (ts : List TV) (i t : Nat), look (number ts i) t = if i ≤ t then ts[t - i]? else none
 | [], i, t => by simp [number, look]
 | x :: l, i, t => by
  simp only [number, look]
  by_cases h : t = i
  · subst h; simp
  · rw [if_neg h, look_number l (i + 1) t]
    by_cases h' : i ≤ t
    · rw [if_pos h', if_pos (by omega)]
      have : t - i = (t - (i + 1)) + 1 := by omega
      rw [this, List.getElem?_cons_succ]
    · rw [if_neg h', if_neg (by omega)]
theorem Lo.canon [Dd] {m m1 : Mp} {s : St} (h : Lo m s.hp m1) (D : List Nat) : Lo m (canon D s).hp (mren (Pm.names (reach s.hp 64 (ios s.hp ++ objs.objsL (vals (keepT D s.tm))) [])) m1 (reach s.hp 64 (ios s.hp ++ objs.objsL (vals (keepT D s.tm))) [])) := h.names
theorem canon_ok' [Dd] {w0 : World} {own0 S : Nat → Prop} {n : Nat} {s : St} {a : Act} {w : World} {m m0 : Mp} (I : Inv w0 own0 S n s a w m) (hl : Lo m0 s.hp m) (D : List Nat) : ∃ m', Inv w0 own0 S n (canon D s) a w m' ∧ Lo m0 (canon D s).hp m' := by
 refine ⟨_, ?_, hl.canon D⟩
 unfold Pm.canon
 refine ⟨I.mem.ren (names_inj _) (fun o i h => names_mem h), fun t x hx => ?_, I.defers, I.size⟩
 dsimp only at hx
 rw [look_renT] at hx
 cases hk : look (keepT D s.tm) t with
 | none => rw [hk] at hx; cases hx
 | some y =>
  rw [hk] at hx
  cases hx
  have h1 := (look_keepT D _ t y hk).1
  rw [look_keepT_eq D _ t h1] at hk
  exact ren_rep (names_inj _) (fun o i h => names_mem h) (I.tms t y hk)
theorem exitS_ok [Dd] {w0 : World} {own0 S : Nat → Prop} {n : Nat} {s : St} {a : Act} {w : World} {m m0 : Mp} (I : Inv w0 own0 S n s a w m) (hl : Lo m0 s.hp m) (d : Option (List Nat)) : ∃ m', Inv w0 own0 S n (exitS d s) a w m' ∧ Lo m0 (exitS d s).hp m' := by
 cases d with
 | none => exact ⟨m, I, hl⟩
 | some D => exact canon_ok' I hl D
def Ends [Dd] (C : Cfg) (f : FuncId) (w0 : World) (own0 S : Nat → Prop) (m0 : Mp) (fr : Frame) (cs : List Frame) (w : World) (r : TV) (out : Hp) : Prop :=
 ∃ v fr' w' mo, Steps C.P (lone fr cs w) (lone fr' cs w') ∧ fr'.fn = f ∧ fr'.leaving C.P w' (.returned v) ∧ Mem w0 own0 S out w' mo ∧ RepT w' mo (RR out w' mo) (UU w0 S out w' mo) v r ∧ Lo m0 out mo
theorem Ends.of [Dd] {C : Cfg} {f : FuncId} {w0 : World} {own0 S : Nat → Prop} {m0 : Mp} {fr fr1 : Frame} {cs : List Frame} {w w1 : World} {r : TV} {out : Hp} (hs : Steps C.P (lone fr cs w) (lone fr1 cs w1)) (h : Ends C f w0 own0 S m0 fr1 cs w1 r out) : Ends C f w0 own0 S m0 fr cs w r out := by
 obtain ⟨v, fr', w', mo, h1, h2⟩ := h
 exact ⟨v, fr', w', mo, hs.trans h1, h2⟩
theorem body_pure [Dd] {C : Cfg} {Φ : FuncId → List TV → Hp → Option Res} {R : List It → St → Option Res} {f : FuncId} {fn : Func} {k : List It} {s : St} {r : TV} {out : Hp} (ih : ∀ {k s}, R k s = some (r, out) → Pu r out) (h : body C Φ R f fn k s = some (r, out)) : Pu r out := by
 unfold body at h
 split at h
 · exact finish_pure h
 · exact ih h
 · exact ih h
 · split at h
   · rename_i b _
     cases b <;> exact ih h
   · cases h
 · exact ih h
 · exact ih h
 · exact ih h
 · exact ih h
 · split at h
   · exact ih h
   · cases h
 · exact finish_pure h
 · exact ih h
 · split at h
   · split at h
     · exact ih h
     · cases h
   · cases h
 · exact ih h
 · split at h
   · split at h
     · exact ih h
     · cases h
   · cases h
 · cases h
theorem run_pure [Dd] {C : Cfg} : ∀ (n : Nat) {f : FuncId} {fn : Func} {k : List It} {s : St} {r : TV} {out : Hp}, run C n f fn k s = some (r, out) → Pu r out := by
 intro n
 induction n with
 | zero => intro f fn k s r out h; simp [run] at h
 | succ n ih => intro f fn k s r out h; exact body_pure (fun h => ih h) h
theorem run_ok [Dd] {C : Cfg} (hC : Prog C) : ∀ (n : Nat) {f : FuncId} {fn : Func} {k : List It} {s : St} {r : TV} {out : Hp}, run C n f fn k s = some (r, out) → C.P.funcs[f]? = some fn →
    ∀ {w0 : World} {own0 S : Nat → Prop} {m0 : Mp} {a : Act} {w : World} {m : Mp} {K : List Item} {b : Frame} (cs : List Frame), GG C w0 own0 → Inv w0 own0 S fn.ntmps s a w m → Lo m0 s.hp m → ItsOk fn.ntmps k K → b.fn = f → b.kind = .normal →
     Ends C f w0 own0 S m0 (b.at a K) cs w r out := by
 intro n
 induction n with
 | zero => intro f fn k s r out h; simp [run] at h
 | succ n ih =>
  intro f fn k s r out h hf w0 own0 S m0 a w m K b cs G I hlo hk hbf hbk
  have E : Env C (phi C (run C n)) w0 own0 := by
   refine ⟨hC.tab, G, hC.gws, fun g ts hp r out hr => ?_⟩
   unfold phi at hr
   split at hr
   · rename_i r' he
     cases hr
     exact hC.ext _ _ _ _ _ he
   · split at hr
     · rename_i gn hg
       split at hr
       · rename_i c hc
         obtain ⟨p1, p2⟩ := run_pure n hr
         refine ⟨⟨gn, hg, hC.name g gn hg, by rw [hc]; rfl⟩, p1, p2, fun w own0 S m vs M G' hsz hargs cs => ?_⟩
         let b : Frame := { (default : Frame) with fn := g, kind := .normal }
         have henter : Frame.enter C.P g vs .normal = b.at { tmps := vs ++ Array.replicate (gn.ntmps - vs.size) undef, defers := [] } [.code c] := by
          simp [Frame.enter, Frame.at, hg, hc, b]
         have I : Inv w own0 S gn.ntmps ⟨number ts 0, hp⟩ { tmps := vs ++ Array.replicate (gn.ntmps - vs.size) undef, defers := [] } w m := by
          refine ⟨M, fun t x hx => ?_, rfl, by simp; omega⟩
          dsimp only at hx ⊢
          rw [look_number] at hx
          simp only [Nat.zero_le, if_true, Nat.sub_zero] at hx
          have hlt : t < vs.size := by rw [hsz]; exact (List.getElem?_eq_some_iff.1 hx).1
          have := hargs t x hx
          simpa [Array.getD_eq_getD_getElem?, Array.getElem?_append, hlt] using this
         obtain ⟨v, fr', w', mo, h1, h2, h3, h4, h5, h6⟩ := ih hr hg (m0 := m) (b := b) cs G' I (fun i _ c hc _ => hc) (.c (hC.dsts g gn c hg hc) .nil) rfl rfl
         exact ⟨.returned v, w', fr', ⟨v, mo, rfl, h4, h5, h6⟩, by rw [henter]; exact h1, h2, h3⟩
       · cases hr
     · cases hr
  have fin : ∀ {K : List Item} {r : TV} {out : Hp}, Steps C.P (lone (b.at a K) cs w) (lone { b.at a K with mode := .returning } cs w) → finish C f fn s = some (r, out) → Ends C f w0 own0 S m0 (b.at a K) cs w r out := by
   intro K r out hs hr
   obtain ⟨v, mo, h1, h2, h3, h4⟩ := finish_ok hC.tab I hlo hr
   exact ⟨v, _, w, mo, hs, hbf, ⟨rfl, I.defers, hbk, fn, by show C.P.funcs[b.fn]? = _; rw [hbf]; exact hf, h1⟩, h2, h3, h4⟩
  unfold run at h
  unfold body at h
  split at h
  · cases hk
    exact fin (.one step_end) h
  · cases hk with
    | c _ hk => exact .of (.one step_skip) (ih h hf cs G I hlo hk hbf hbk)
  · cases hk with
    | c hc hk =>
     simp only [codeOk, Bool.and_eq_true] at hc
     exact .of (.one step_seq) (ih h hf cs G I hlo (.c hc.1 (.c hc.2 hk)) hbf hbk)
  · cases hk with
    | c hc hk =>
     simp only [codeOk, Bool.and_eq_true] at hc
     split at h
     · rename_i bb t hev
       obtain ⟨e, _⟩ := (I.ev hev).scv
       cases t with
       | true => exact .of (.one (step_cond e)) (ih h hf cs G I hlo (.c hc.1 hk) hbf hbk)
       | false => exact .of (.one (step_cond e)) (ih h hf cs G I hlo (.c hc.2 hk) hbf hbk)
     · cases h
  · cases hk with
    | c hc hk => exact .of (.one step_block) (ih h hf cs G I hlo (.c hc (.blk hk)) hbf hbk)
  · cases hk with
    | blk hk => exact .of (.one step_inBlock) (ih h hf cs G I hlo hk hbf hbk)
  · cases hk with
    | c hc hk => exact ih h hf cs G I hlo (.new hc hk) hbf hbk
  · rename_i c D k
    obtain ⟨m', I', hlo'⟩ := canon_ok' I hlo D
    cases hk with
    | lp hc hk => exact .of (.one step_inLoop) (ih h hf cs G I' hlo' (.c hc (.lp hc hk)) hbf hbk)
    | new hc hk => exact .of (.one step_loop) (ih h hf cs G I' hlo' (.c hc (.lp hc hk)) hbf hbk)
  · cases hk with
    | c hc hk =>
     split at h
     · rename_i k' he
       obtain ⟨K', h1, h2⟩ := exitIt_ok hk he
       obtain ⟨m', I', hlo'⟩ := exitS_ok I hlo (exitD _ _ none)
       exact .of (.one (step_exit h1)) (ih h hf cs G I' hlo' h2 hbf hbk)
     · cases h
  · cases hk with
    | c hc hk => exact fin (.one step_ret) h
  · cases hk with
    | c hc hk => exact .of (.one step_region) (ih h hf cs G I hlo (.rg hc hk) hbf hbk)
  · cases hk with
    | c hc hk =>
     split at h
     · rename_i l hp
       split at h
       · rename_i s' hd
         obtain ⟨a', w', m', h1, h2, h3⟩ := draw_ok (b := b) (cs := cs) E hC.mixed hc hp hd I
         exact .of h1 (ih h hf cs G h2 (hlo.goes h3) hk hbf hbk)
       · cases h
     · cases h
  · cases hk with
    | rg hd hk => exact .of (.one step_region_end) (ih h hf cs G I hlo hk hbf hbk)
  · cases hk with
    | rg hd hk =>
     split at h
     · rename_i o ho
       split at h
       · rename_i v hp' hs
         obtain ⟨a', w', m', h1, h2, h3⟩ := opStep_ok (b := b) (cs := cs) E I ho (fun d hd' => dstsOk_get hd ho hd') hs
         refine .of h1 (ih h hf cs G h2 ?_ (.rg hd hk) hbf hbk)
         rw [set_hp]
         exact hlo.goes h3
       · cases h
     · cases h
  · cases h
theorem run_spec [Dd] {C : Cfg} (hC : Prog C) {n : Nat} {g : FuncId} {gn : Func} {c : Code} {ts : List TV} {hp : Hp} {r : TV} {out : Hp} (hg : C.P.funcs[g]? = some gn) (hc : gn.body = some c) (hr : run C n g gn [.c c] ⟨number ts 0, hp⟩ = some (r, out)) :
    SpecF C g ts hp r out := by
 obtain ⟨p1, p2⟩ := run_pure n hr
 refine ⟨⟨gn, hg, hC.name g gn hg, by rw [hc]; rfl⟩, p1, p2, fun w own0 S m vs M G' hsz hargs cs => ?_⟩
 let b : Frame := { (default : Frame) with fn := g, kind := .normal }
 have henter : Frame.enter C.P g vs .normal = b.at { tmps := vs ++ Array.replicate (gn.ntmps - vs.size) undef, defers := [] } [.code c] := by
  simp [Frame.enter, Frame.at, hg, hc, b]
 have I : Inv w own0 S gn.ntmps ⟨number ts 0, hp⟩ { tmps := vs ++ Array.replicate (gn.ntmps - vs.size) undef, defers := [] } w m := by
  refine ⟨M, fun t x hx => ?_, rfl, by simp; omega⟩
  dsimp only at hx ⊢
  rw [look_number] at hx
  simp only [Nat.zero_le, if_true, Nat.sub_zero] at hx
  have hlt : t < vs.size := by rw [hsz]; exact (List.getElem?_eq_some_iff.1 hx).1
  have := hargs t x hx
  simpa [Array.getD_eq_getD_getElem?, Array.getElem?_append, hlt] using this
 obtain ⟨v, fr', w', mo, h1, h2, h3, h4, h5, h6⟩ := run_ok hC n hr hg (m0 := m) (b := b) cs G' I (fun i _ c hc _ => hc) (.c (hC.dsts g gn c hg hc) .nil) rfl rfl
 exact ⟨.returned v, w', fr', ⟨v, mo, rfl, h4, h5, h6⟩, by rw [henter]; exact h1, h2, h3⟩
end Go.Pm
namespace Go.Pm
open Go
abbrev Ph := FuncId → List TV → Hp → Option Res
def Le (Φ Φ' : Ph) : Prop := ∀ f ts hp r, Φ f ts hp = some r → Φ' f ts hp = some r
section
variable {C : Cfg}
theorem callAt_at {Φ : Ph} {s : St} {d : Nat} {g : FuncId} {as : List TV} {x : TV × Hp} (h : callAt C Φ s d g as = some x) : ∃ f ts hp r, Φ f ts hp = some r ∧ ∀ {Φ' : Ph}, Φ' f ts hp = some r → callAt C Φ' s d g as = some x := by
 unfold callAt at h ⊢
 cases hdp : isDeep (C.sg g).io as with
 | true =>
  rw [hdp] at h
  simp only [cond_true] at h ⊢
  unfold callDeep at h
  split at h
  · rename_i ts hts
    split at h
    · rename_i r out hr
      refine ⟨_, _, _, _, hr, fun {Φ'} h' => ?_⟩
      unfold callDeep
      rw [hts]
      dsimp only
      rw [h']
      exact h
    · cases h
  · cases h
 | false =>
  rw [hdp] at h
  simp only [cond_false] at h ⊢
  cases hfr : freshQ (C.sg g).fr as with
  | some ts =>
   rw [hfr] at h
   dsimp only at h ⊢
   unfold callFresh at h
   split at h
   · rename_i r hr
     refine ⟨_, _, _, _, hr, fun {Φ'} h' => ?_⟩
     unfold callFresh
     rw [h']
     exact h
   · cases h
  | none =>
   rw [hfr] at h
   dsimp only at h ⊢
   unfold callStd at h
   dsimp only at h
   split at h
   · rename_i hcond
     split at h
     · rename_i ts hts
       split at h
       · rename_i r out hr
         refine ⟨_, _, _, _, hr, fun {Φ'} h' => ?_⟩
         unfold callStd
         dsimp only
         rw [if_pos hcond, hts]
         dsimp only
         rw [h']
         exact h
       · cases h
     · cases h
   · cases h
theorem callOp_at {Φ : Ph} {s : St} {d : Nat} {c : Call} {x : TV × Hp} (h : callOp C Φ s d c = some x) : ∃ f ts hp r, Φ f ts hp = some r ∧ ∀ {Φ' : Ph}, Φ' f ts hp = some r → callOp C Φ' s d c = some x := by
 unfold callOp at h
 split at h
 · rename_i f caps as hc ha
   obtain ⟨f', ts, hp, r, h1, h2⟩ := callAt_at h
   refine ⟨f', ts, hp, r, h1, fun {Φ'} h' => ?_⟩
   unfold callOp
   rw [hc, ha]
   exact h2 h'
 · cases h
theorem heavyOp_at [Dd] {Φ : Ph} {s : St} {d : Nat} {op : Op} {x : TV × Hp} (h : heavyOp C Φ s d op = some x) : (∀ Φ', heavyOp C Φ' s d op = some x) ∨ ∃ f ts hp r, Φ f ts hp = some r ∧ ∀ {Φ' : Ph}, Φ' f ts hp = some r → heavyOp C Φ' s d op = some x := by
 by_cases hc : ∃ x args ts, op = .call { callee := .value x, args := args, argTypes := ts }
 · obtain ⟨y, args, ts, rfl⟩ := hc
   exact .inr (callOp_at h)
 · have e : ∀ Φ : Ph, heavyOp C Φ s d op = memOp C s d op := fun Φ => by
     unfold heavyOp
     split
     · rename_i x args ts; exact absurd ⟨x, args, ts, rfl⟩ hc
     · rfl
   rw [e] at h
   exact .inl (fun Φ' => by rw [e]; exact h)
theorem oneOp_at [Dd] {Φ : Ph} {s : St} {o : Oper} {x : TV × Hp} (h : oneOp C Φ s o = some x) : (∀ Φ', oneOp C Φ' s o = some x) ∨ ∃ f ts hp r, Φ f ts hp = some r ∧ ∀ {Φ' : Ph}, Φ' f ts hp = some r → oneOp C Φ' s o = some x := by
 unfold oneOp at h ⊢
 cases hl : isLight C.bs o.op with
 | true => rw [hl] at h; exact .inl (fun Φ' => h)
 | false => rw [hl] at h; exact heavyOp_at h
theorem opStep_at [Dd] {Φ : Ph} {ops : Array Oper} {s : St} {o : Oper} {x : TV × Hp} (h : opStep C Φ ops s o = some x) : (∀ Φ', opStep C Φ' ops s o = some x) ∨ ∃ f ts hp r, Φ f ts hp = some r ∧ ∀ {Φ' : Ph}, Φ' f ts hp = some r → opStep C Φ' ops s o = some x := by
 unfold opStep at h ⊢
 cases hg : o.guard with
 | none => rw [hg] at h; exact oneOp_at h
 | some g =>
  obtain ⟨j, want⟩ := g
  rw [hg] at h
  dsimp only at h ⊢
  cases hj : (ops[j]?).bind (·.dst) with
  | none => rw [hj] at h; cases h
  | some g =>
   rw [hj] at h
   dsimp only at h ⊢
   split at h
   · rename_i b t hl
     cases hc : (t == want) with
     | true => rw [hc] at h; rcases oneOp_at h with h1 | ⟨f, ts, hp, r, h1, h2⟩
               · exact .inl h1
               · exact .inr ⟨f, ts, hp, r, h1, h2⟩
     | false => rw [hc] at h; exact .inl (fun _ => h)
   · exact .inl (fun _ => h)
   · cases h
theorem opStep_mono [Dd] {Φ Φ' : Ph} (hΦ : Le Φ Φ') {ops : Array Oper} {s : St} {o : Oper} {x : TV × Hp} (h : opStep C Φ ops s o = some x) : opStep C Φ' ops s o = some x := by
 rcases opStep_at h with h | ⟨f, ts, hp, r, h1, h2⟩
 · exact h _
 · exact h2 (hΦ _ _ _ _ h1)
theorem tstep_step {Φ Φ' : Ph} {ops : Array Oper} (hΦ : ∀ {s : St} {o : Oper} {x : TV × Hp}, opStep C Φ ops s o = some x → opStep C Φ' ops s o = some x) {i : Nat} {L : List Nat} {rd : List (Nat × List Nat)} {s : St} {x : St × List (Nat × List Nat)} (h : tstep C Φ ops i L rd s = some x) : tstep C Φ' ops i L rd s = some x := by
 unfold tstep at h ⊢
 cases ho : ops[i]? with
 | none => rw [ho] at h; cases h
 | some o =>
  rw [ho] at h
  dsimp only at h ⊢
  generalize (bif isLight C.bs o.op then (evObjs s (rdOps o.op)).all (fun q => (look s.hp q).isSome) else rd.all (fun x => !L.contains x.1 || apartL x.2 (touched C s o.op))) = c at h ⊢
  cases c with
  | false => cases h
  | true =>
   simp only [cond_true] at h ⊢
   cases hs : opStep C Φ ops s o with
   | none => rw [hs] at h; cases h
   | some x =>
    rw [hs] at h
    rw [hΦ hs]
    exact h
theorem trun_step [Dd] {Φ Φ' : Ph} {ops : Array Oper} (hΦ : ∀ {s : St} {o : Oper} {x : TV × Hp}, opStep C Φ ops s o = some x → opStep C Φ' ops s o = some x) : ∀ {t : PT} {rd : List (Nat × List Nat)} {s s' : St}, trun C Φ ops t rd s = some s' → trun C Φ' ops t rd s = some s' := by
 intro t
 induction t with
 | fin => intro rd s s' h; exact h
 | no => intro rd s s' h; exact h
 | lt i r ih =>
  intro rd s s' h
  simp only [trun] at h ⊢
  cases hs : tstep C Φ ops i [] rd s with
  | none => rw [hs] at h; cases h
  | some x => rw [hs] at h; rw [tstep_step hΦ hs]; exact ih h
 | hv i L r o ihr iho =>
  intro rd s s' h
  simp only [trun] at h ⊢
  cases hs : tstep C Φ ops i L rd s with
  | none => rw [hs] at h; cases h
  | some x =>
   rw [hs] at h
   rw [tstep_step hΦ hs]
   dsimp only at h ⊢
   cases hr : trun C Φ ops r x.2 x.1 with
   | none => rw [hr] at h; cases h
   | some e =>
    rw [hr] at h
    rw [ihr hr]
    dsimp only at h ⊢
    cases hn : o.isNo with
    | true => rw [hn] at h; exact h
    | false =>
     rw [hn] at h
     simp only [cond_false] at h ⊢
     split at h
     · rename_i hq; rw [if_pos (iho hq)]; exact h
     · cases h
structure Chain (Φn : Nat → Ph) (Φ : Ph) : Prop where
 up : ∀ n, Le (Φn n) (Φn (n + 1))
 le : ∀ n, Le (Φn n) Φ
 at' : ∀ f ts hp r, Φ f ts hp = some r → ∃ n, Φn n f ts hp = some r
theorem Chain.ge {Φn : Nat → Ph} {Φ : Ph} (h : Chain Φn Φ) {n : Nat} : ∀ (k : Nat), Le (Φn n) (Φn (n + k))
 | 0 => fun _ _ _ _ h => h
 | k + 1 => fun f ts hp r hr => h.up (n + k) f ts hp r (h.ge k f ts hp r hr)
theorem opStep_cont [Dd] {Φn : Nat → Ph} {Φ : Ph} (h : Chain Φn Φ) {ops : Array Oper} {s : St} {o : Oper} {x : TV × Hp} (hs : opStep C Φ ops s o = some x) : ∃ n, ∀ k, opStep C (Φn (n + k)) ops s o = some x := by
 rcases opStep_at hs with h1 | ⟨f, ts, hp, r, h1, h2⟩
 · exact ⟨0, fun _ => h1 _⟩
 · obtain ⟨n, hn⟩ := h.at' _ _ _ _ h1
   exact ⟨n, fun k => h2 (h.ge k _ _ _ _ hn)⟩
theorem tstep_cont [Dd] {Φn : Nat → Ph} {Φ : Ph} (h : Chain Φn Φ) {ops : Array Oper} {i : Nat} {L : List Nat} {rd : List (Nat × List Nat)} {s : St} {x : St × List (Nat × List Nat)} (hs : tstep C Φ ops i L rd s = some x) : ∃ n, ∀ k, tstep C (Φn (n + k)) ops i L rd s = some x := by
 unfold tstep at hs ⊢
 cases ho : ops[i]? with
 | none => rw [ho] at hs; cases hs
 | some o =>
  rw [ho] at hs
  dsimp only at hs ⊢
  generalize (bif isLight C.bs o.op then (evObjs s (rdOps o.op)).all (fun q => (look s.hp q).isSome) else rd.all (fun x => !L.contains x.1 || apartL x.2 (touched C s o.op))) = c at hs ⊢
  cases c with
  | false => cases hs
  | true =>
   simp only [cond_true] at hs ⊢
   cases hst : opStep C Φ ops s o with
   | none => rw [hst] at hs; cases hs
   | some y =>
    rw [hst] at hs
    obtain ⟨n, hn⟩ := opStep_cont h hst
    refine ⟨n, fun k => ?_⟩
    rw [hn k]
    exact hs
theorem trun_cont [Dd] {Φn : Nat → Ph} {Φ : Ph} (h : Chain Φn Φ) {ops : Array Oper} : ∀ {t : PT} {rd : List (Nat × List Nat)} {s s' : St}, trun C Φ ops t rd s = some s' → ∃ n, ∀ k, trun C (Φn (n + k)) ops t rd s = some s' := by
 intro t
 induction t with
 | fin => intro rd s s' hr; exact ⟨0, fun _ => hr⟩
 | no => intro rd s s' hr; exact ⟨0, fun _ => hr⟩
 | lt i r ih =>
  intro rd s s' hr
  simp only [trun] at hr ⊢
  cases hs : tstep C Φ ops i [] rd s with
  | none => rw [hs] at hr; cases hr
  | some x =>
   rw [hs] at hr
   obtain ⟨n1, h1⟩ := tstep_cont h hs
   obtain ⟨n2, h2⟩ := ih hr
   refine ⟨n1 + n2, fun k => ?_⟩
   have e1 := h1 (n2 + k)
   have e2 := h2 (n1 + k)
   rw [show n1 + (n2 + k) = n1 + n2 + k by omega] at e1
   rw [show n2 + (n1 + k) = n1 + n2 + k by omega] at e2
   rw [e1]
   exact e2
 | hv i L r o ihr iho =>
  intro rd s s' hr
  simp only [trun] at hr ⊢
  cases hs : tstep C Φ ops i L rd s with
  | none => rw [hs] at hr; cases hr
  | some x =>
   rw [hs] at hr
   dsimp only at hr ⊢
   cases hrr : trun C Φ ops r x.2 x.1 with
   | none => rw [hrr] at hr; cases hr
   | some e =>
    rw [hrr] at hr
    dsimp only at hr
    obtain ⟨n1, h1⟩ := tstep_cont h hs
    obtain ⟨n2, h2⟩ := ihr hrr
    cases hn : o.isNo with
    | true =>
     rw [hn] at hr
     refine ⟨n1 + n2, fun k => ?_⟩
     have e1 := h1 (n2 + k)
     have e2 := h2 (n1 + k)
     rw [show n1 + (n2 + k) = n1 + n2 + k by omega] at e1
     rw [show n2 + (n1 + k) = n1 + n2 + k by omega] at e2
     rw [e1]
     dsimp only
     rw [e2]
     exact hr
    | false =>
     rw [hn] at hr
     simp only [cond_false] at hr ⊢
     split at hr
     · rename_i hq
       obtain ⟨n3, h3⟩ := iho hq
       refine ⟨n1 + n2 + n3, fun k => ?_⟩
       have e1 := h1 (n2 + n3 + k)
       have e2 := h2 (n1 + n3 + k)
       have e3 := h3 (n1 + n2 + k)
       rw [show n1 + (n2 + n3 + k) = n1 + n2 + n3 + k by omega] at e1
       rw [show n2 + (n1 + n3 + k) = n1 + n2 + n3 + k by omega] at e2
       rw [show n3 + (n1 + n2 + k) = n1 + n2 + n3 + k by omega] at e3
       rw [e1]
       dsimp only
       rw [e2]
       dsimp only
       rw [if_pos e3]
       exact hr
     · cases hr
theorem body_mono [Dd] {Φ Φ' : Ph} {R R' : List It → St → Option Res} (hΦ : Le Φ Φ') (hR : ∀ k s r, R k s = some r → R' k s = some r) {f : FuncId} {fn : Func} {k : List It} {s : St} {r : Res} (h : body C Φ R f fn k s = some r) : body C Φ' R' f fn k s = some r := by
 unfold body at h ⊢
 split at h
 · exact h
 · exact hR _ _ _ h
 · exact hR _ _ _ h
 · split at h
   · rename_i b t he; cases t <;> exact hR _ _ _ h
   · cases h
 · exact hR _ _ _ h
 · exact hR _ _ _ h
 · exact hR _ _ _ h
 · exact hR _ _ _ h
 · split at h
   · exact hR _ _ _ h
   · cases h
 · exact h
 · exact hR _ _ _ h
 · split at h
   · split at h
     · rename_i hd; rw [trun_step (fun h => opStep_mono hΦ h) hd]; exact hR _ _ _ h
     · cases h
   · cases h
 · exact hR _ _ _ h
 · split at h
   · split at h
     · rename_i hs; rw [opStep_mono hΦ hs]; exact hR _ _ _ h
     · cases h
   · cases h
 · cases h
theorem body_cont [Dd] {Φn : Nat → Ph} {Φ : Ph} (hΦ : Chain Φn Φ) {Rn : Nat → List It → St → Option Res} {R : List It → St → Option Res} (hup : ∀ n k s r, Rn n k s = some r → Rn (n + 1) k s = some r) (hR : ∀ k s r, R k s = some r → ∃ n, Rn n k s = some r)
    {f : FuncId} {fn : Func} {k : List It} {s : St} {r : Res} (h : body C Φ R f fn k s = some r) : ∃ n, body C (Φn n) (Rn n) f fn k s = some r := by
 have ge : ∀ (n j : Nat) k s r, Rn n k s = some r → Rn (n + j) k s = some r := by
  intro n j
  induction j with
  | zero => intro k s r h; exact h
  | succ j ih => intro k s r h; exact hup _ _ _ _ (ih k s r h)
 unfold body at h ⊢
 split at h
 · exact ⟨0, h⟩
 · exact hR _ _ _ h
 · exact hR _ _ _ h
 · split at h
   · rename_i b t he
     cases t <;> exact hR _ _ _ h
   · cases h
 · exact hR _ _ _ h
 · exact hR _ _ _ h
 · exact hR _ _ _ h
 · exact hR _ _ _ h
 · split at h
   · exact hR _ _ _ h
   · cases h
 · exact ⟨0, h⟩
 · exact hR _ _ _ h
 · split at h
   · rename_i hp
     split at h
     · rename_i s' hd
       obtain ⟨n1, h1⟩ := trun_cont hΦ hd
       obtain ⟨n2, h2⟩ := hR _ _ _ h
       refine ⟨n1 + n2, ?_⟩
       rw [h1 n2]
       have := ge n2 n1 _ _ _ h2
       rw [Nat.add_comm] at this
       exact this
     · cases h
   · cases h
 · exact hR _ _ _ h
 · split at h
   · rename_i o ho
     split at h
     · rename_i v hp hs
       obtain ⟨n1, h1⟩ := opStep_cont hΦ hs
       obtain ⟨n2, h2⟩ := hR _ _ _ h
       refine ⟨n1 + n2, ?_⟩
       rw [h1 n2]
       have := ge n2 n1 _ _ _ h2
       rw [Nat.add_comm] at this
       exact this
     · cases h
   · cases h
 · cases h
theorem phi_mono {R R' : FuncId → Func → List It → St → Option Res} (h : ∀ f fn k s r, R f fn k s = some r → R' f fn k s = some r) : Le (phi C R) (phi C R') := by
 intro g ts hp r hr
 unfold phi at hr ⊢
 cases he : C.ext g ts hp with
 | some r' => rw [he] at hr; exact hr
 | none =>
  rw [he] at hr
  dsimp only at hr ⊢
  cases hg : C.P.funcs[g]? with
  | none => rw [hg] at hr; cases hr
  | some gn =>
   rw [hg] at hr
   dsimp only at hr ⊢
   cases hb : gn.body with
   | none => rw [hb] at hr; cases hr
   | some c => rw [hb] at hr; exact h _ _ _ _ _ hr
theorem run_mono [Dd] : ∀ (n : Nat) {f : FuncId} {fn : Func} {k : List It} {s : St} {r : Res}, run C n f fn k s = some r → run C (n + 1) f fn k s = some r := by
 intro n
 induction n with
 | zero => intro f fn k s r h; simp [run] at h
 | succ n ih =>
  intro f fn k s r h
  rw [run]
  exact body_mono (phi_mono fun f fn k s r h => ih h) (fun k s r h => ih h) h
theorem run_ge [Dd] (n : Nat) {f : FuncId} {fn : Func} {k : List It} {s : St} {r : Res} (h : run C n f fn k s = some r) : ∀ j, run C (n + j) f fn k s = some r
 | 0 => h
 | j + 1 => run_mono _ (run_ge n h j)
open Classical in
noncomputable def lim (C : Cfg) (f : FuncId) (fn : Func) (k : List It) (s : St) : Option Res := if h : ∃ r n, run C n f fn k s = some r then some h.choose else none
theorem lim_iff [Dd] {f : FuncId} {fn : Func} {k : List It} {s : St} {r : Res} : lim C f fn k s = some r ↔ ∃ n, run C n f fn k s = some r := by
 unfold lim
 constructor
 · intro h
   split at h
   · rename_i hx
     cases h
     exact hx.choose_spec
   · cases h
 · rintro ⟨n, hn⟩
   have hx : ∃ r n, run C n f fn k s = some r := ⟨r, n, hn⟩
   rw [dif_pos hx]
   obtain ⟨n', hn'⟩ := hx.choose_spec
   have e1 := run_ge n hn n'
   have e2 := run_ge n' hn' n
   rw [Nat.add_comm, e2] at e1
   exact e1
theorem phi_chain [Dd] : Chain (fun n => phi C (run C n)) (phi C (lim C)) where
 up n := phi_mono fun f fn k s r h => run_mono n h
 le n := phi_mono fun f fn k s r h => lim_iff.2 ⟨n, h⟩
 at' g ts hp r hr := by
  unfold phi at hr ⊢
  cases he : C.ext g ts hp with
  | some r' => rw [he] at hr; exact ⟨0, hr⟩
  | none =>
   rw [he] at hr
   dsimp only at hr ⊢
   cases hg : C.P.funcs[g]? with
   | none => rw [hg] at hr; cases hr
   | some gn =>
    rw [hg] at hr
    dsimp only at hr ⊢
    cases hb : gn.body with
    | none => rw [hb] at hr; cases hr
    | some c => rw [hb] at hr; exact lim_iff.1 hr
theorem lim_eq [Dd] (f : FuncId) (fn : Func) (k : List It) (s : St) : lim C f fn k s = body C (phi C (lim C)) (lim C f fn) f fn k s := by
 have key : ∀ r, lim C f fn k s = some r ↔ body C (phi C (lim C)) (lim C f fn) f fn k s = some r := by
  intro r
  rw [lim_iff]
  constructor
  · rintro ⟨n, hn⟩
    cases n with
    | zero => simp [run] at hn
    | succ n => exact body_mono (phi_chain.le n) (fun k s r h => lim_iff.2 ⟨n, h⟩) hn
  · intro h
    obtain ⟨n, hn⟩ := body_cont phi_chain (Rn := fun n => run C n f fn) (fun n k s r h => run_mono n h) (fun k s r h => lim_iff.1 h) h
    exact ⟨n + 1, hn⟩
 cases h : lim C f fn k s with
 | some r => exact ((key r).1 h).symm
 | none =>
  cases h' : body C (phi C (lim C)) (lim C f fn) f fn k s with
  | none => rfl
  | some r => rw [(key r).2 h'] at h; cases h
theorem lim_spec [Dd] (hC : Prog C) {g : FuncId} {gn : Func} {c : Code} {ts : List TV} {hp : Hp} {r : TV} {out : Hp} (hg : C.P.funcs[g]? = some gn) (hc : gn.body = some c) (hr : lim C g gn [.c c] ⟨number ts 0, hp⟩ = some (r, out)) : SpecF C g ts hp r out := by
 obtain ⟨n, hn⟩ := lim_iff.1 hr
 exact run_spec hC hg hc hn
section
variable (f : FuncId) (fn : Func) (k : List It) (s : St)
theorem lim_nil [Dd] : lim C f fn [] s = finish C f fn s := by rw [lim_eq]; rfl
theorem lim_ret [Dd] : lim C f fn (.c .ret :: k) s = finish C f fn s := by rw [lim_eq]; rfl
theorem lim_skip [Dd] : lim C f fn (.c .skip :: k) s = lim C f fn k s := by rw [lim_eq]; rfl
theorem lim_seq [Dd] (x y : Code) : lim C f fn (.c (.seq x y) :: k) s = lim C f fn (.c x :: .c y :: k) s := by rw [lim_eq]; rfl
theorem lim_cond [Dd] (c : Operand) (x y : Code) : lim C f fn (.c (.cond c x y) :: k) s = match s.ev c with
      | some (.pv _ (.sc (.bool b))) => bif b then lim C f fn (.c x :: k) s else lim C f fn (.c y :: k) s
      | _ => none := by rw [lim_eq]; rfl
theorem lim_block [Dd] (id : Nat) (c : Code) : lim C f fn (.c (.block id c) :: k) s = lim C f fn (.c c :: .blk id :: k) s := by rw [lim_eq]; rfl
theorem lim_blk [Dd] (id : Nat) : lim C f fn (.blk id :: k) s = lim C f fn k s := by rw [lim_eq]; rfl
theorem lim_loop [Dd] (c : Code) : lim C f fn (.c (.loop c) :: k) s = lim C f fn (.lp c (keepD (globs fn) s.tm) :: k) s := by rw [lim_eq]; rfl
theorem lim_lp [Dd] (c : Code) (D : List Nat) : lim C f fn (.lp c D :: k) s = lim C f fn (.c c :: .lp c D :: k) (canon D s) := by rw [lim_eq]; rfl
theorem lim_exit [Dd] (id : Nat) : lim C f fn (.c (.exit id) :: k) s = match exitIt id k with
      | some k' => lim C f fn k' (exitS (exitD id k none) s)
      | none => none := by rw [lim_eq]; rfl
theorem lim_region [Dd] (id : Nat) (ops : Array Oper) : lim C f fn (.c (.region id ops false) :: k) s = lim C f fn (.rg ops (List.range ops.size) :: k) s := by rw [lim_eq]; rfl
theorem lim_draw [Dd] (id : Nat) (ops : Array Oper) : lim C f fn (.c (.region id ops true) :: k) s = match plan C.bs ops with
      | some l => match trun C (phi C (lim C)) ops l [] s with
       | some s' => lim C f fn k s'
       | none => none
      | none => none := by rw [lim_eq]; rfl
theorem lim_rg_nil [Dd] (ops : Array Oper) : lim C f fn (.rg ops [] :: k) s = lim C f fn k s := by rw [lim_eq]; rfl
theorem lim_rg [Dd] (ops : Array Oper) (i : Nat) (l : List Nat) : lim C f fn (.rg ops (i :: l) :: k) s = match ops[i]? with
      | some o => match opStep C (phi C (lim C)) ops s o with
       | some (v, hp) => lim C f fn (.rg ops l :: k) (s.set o.dst v hp)
       | none => none
      | none => none := by rw [lim_eq]; rfl
end
end
def code (fn : Func) : Code := fn.body.getD .skip
def opsOf (id : Nat) : Code → Option (Array Oper)
 | .region j ops _ => if j = id then some ops else none
 | .seq a b => (opsOf id a).or (opsOf id b)
 | .cond _ a b => (opsOf id a).or (opsOf id b)
 | .block _ a => opsOf id a
 | .loop a => opsOf id a
 | _ => none
theorem phi_at {C : Cfg} {g : FuncId} {gn : Func} {c : Code} {ts : List TV} {hp : Hp} (he : C.ext g ts hp = none) (hg : C.P.funcs[g]? = some gn) (hc : gn.body = some c) : phi C (lim C) g ts hp = lim C g gn [.c c] ⟨number ts 0, hp⟩ := by
 unfold phi
 rw [he]
 dsimp only
 rw [hg]
 dsimp only
 rw [hc]
end Go.Pm
