/- What an event does to a state, in plain data. -/
import Derived.Test.YtgbfmdihmnpcdaaGreatDoorRW10
import Derived.Test.YtgbfmdihmnpcdaaGreatDoorRW9
namespace Go.Proofs.YtgbfmdihmnpcdaaGreatDoor
open Go Go.Pm Go.Proofs
set_option linter.unusedVariables false
set_option linter.unusedSimpArgs false
def mayS (s : Sta) (e : Ev) : Bool := decide (s.serial < 1000000) &&
 (if e.kind = 0 then !s.opn
 else if e.kind = 1 then s.opn && (decide (s.pend = []) && ((hasN e.addr s.ents == decide (e.act ≠ 1)) && (hasN e.addr s.ents || decide (s.ents.length < 16))))
 else if e.kind = 2 then decide (s.pend ≠ []) && (decide (s.pend = e.addr) && decide (s.act ≠ 4))
 else if e.kind = 3 then decide (s.pend ≠ []) && (decide (s.pend = e.addr) && decide (s.act = 4))
 else if e.kind = 4 then decide (s.pend ≠ []) && decide (s.pend = e.addr)
 else if e.kind = 5 then s.opn && decide (s.pend = [])
 else s.opn)
def tntE (serial : Int) (x : En) : En := ⟨x.addr, x.val, x.deps, true, serial⟩
def tntS (serial : Int) (r : Bool) (pend : List Int) (l : List En) : List En :=
 if pend = [] then l else
 if 0 ≤ fndN pend l 0 then (match l[(fndN pend l 0).toNat]? with
  | some x => l.set (fndN pend l 0).toNat (tntE serial x)
  | none => l)
 else if r then putL ⟨pend, ⟨5, 0, [], [], []⟩, [], true, serial⟩ false l else l
def doS (s : Sta) (e : Ev) : Sta :=
 if e.kind = 0 then ⟨s.serial + 1, true, s.pend, s.act, s.ents⟩
 else if e.kind = 1 then ⟨s.serial + 1, s.opn, e.addr, e.act, s.ents⟩
 else if e.kind = 2 then ⟨s.serial + 1, s.opn, [], 0, putL ⟨e.addr, e.val, e.deps, false, s.serial + 1⟩ false s.ents⟩
 else if e.kind = 3 then ⟨s.serial + 1, s.opn, [], 0, s.ents.eraseIdx (fndN s.pend s.ents 0).toNat⟩
 else if e.kind = 5 then ⟨s.serial + 1, false, [], 0, s.ents⟩
 else ⟨s.serial + 1, decide (e.kind = 4) && s.opn, [], 0, tntS (s.serial + 1) (decide (e.kind ≠ 4)) s.pend s.ents⟩
structure InvS (s : Sta) : Prop where
 srt : Srt s.ents
 ser : 0 ≤ s.serial ∧ s.serial ≤ 1000000
 opn : s.pend ≠ [] → s.opn = true ∧ hasN s.pend s.ents = decide (s.act ≠ 1)
theorem stB_inv {s : Sta} (h : stB s = true) : InvS s := by
 simp only [stB, Bool.and_eq_true, decide_eq_true_eq] at h
 obtain ⟨⟨⟨h1, h2⟩, h3⟩, h4⟩ := h
 refine ⟨ascN_srt h3, by simpa [inI] using h1, fun hp => ?_⟩
 rw [if_neg hp] at h4
 simp only [Bool.and_eq_true, beq_iff_eq] at h4
 exact ⟨h4.1.1.1, h4.2⟩
theorem fndN_first {a : List Int} : ∀ (l : List En) (i r : Nat) (x : En), l[r]? = some x → x.addr = a → (∀ t y, t < r → l[t]? = some y → y.addr ≠ a) → fndN a l i = ((i + r : Nat) : Int)
 | [], i, r, x, h, _, _ => by simp at h
 | y :: l, i, 0, x, h, e, _ => by
  have : y = x := by simpa using h
  subst this
  simp [fndN, e]
 | y :: l, i, r + 1, x, h, e, h2 => by
  have h3 := h2 0 y (by omega) rfl
  have ih := fndN_first l (i + 1) r x (by simpa using h) e (fun t z ht hz => h2 (t + 1) z (by omega) (by simpa using hz))
  rw [fndN, if_neg h3, ih]
  congr 1
  omega
theorem fndN_bs {a : List Int} {l : List En} (hs : Srt l) (h : fdN a l (bsN a l 0 l.length) = true) : fndN a l 0 = (bsN a l 0 l.length : Nat) ∧ bsN a l 0 l.length < l.length := by
 obtain ⟨h1, h2, h3⟩ := bsN_at (a := a) hs
 generalize bsN a l 0 l.length = r at *
 unfold fdN at h
 split at h
 · rename_i x hx
   have e : x.addr = a := cmpB_zero.1 (of_decide_eq_true h)
   have hl := (List.getElem?_eq_some_iff.1 hx).1
   refine ⟨?_, hl⟩
   rw [fndN_first l 0 r x hx e fun t y ht hy e2 => ?_]
   · simp
   · have := h1 t y ht hy
     rw [e2, cmpB_self] at this
     omega
 · cases h
theorem fndN_no {a : List Int} {l : List En} (hs : Srt l) (h : fdN a l (bsN a l 0 l.length) = false) : ¬ 0 ≤ fndN a l 0 := by
 have h1 := fndN_has a l 0
 rw [fdN_has hs] at h
 rw [show hasN a l = false from h] at h1
 exact of_decide_eq_false h1
theorem fdN_hasN {a : List Int} {l : List En} (hs : Srt l) : fdN a l (bsN a l 0 l.length) = hasN a l := fdN_has hs
theorem fndN_lt (a : List Int) : ∀ (l : List En) (i : Nat), fndN a l i < ((i + l.length : Nat) : Int)
 | [], i => by simp [fndN]; omega
 | x :: l, i => by
  have ih := fndN_lt a l (i + 1)
  rw [fndN]
  split
  · simp; omega
  · simp at ih ⊢; omega
theorem srt_iff {l : List En} : Srt l ↔ l.Pairwise fun x y => cmpB x.addr y.addr < 0 := by
 constructor
 · intro h
   exact List.pairwise_iff_getElem.2 fun i j hi hj hij => h i j _ _ hij (List.getElem?_eq_getElem hi) (List.getElem?_eq_getElem hj)
 · intro hp s t x y hst hx hy
   rw [List.pairwise_iff_getElem] at hp
   obtain ⟨h1, rfl⟩ := List.getElem?_eq_some_iff.1 hx
   obtain ⟨h2, rfl⟩ := List.getElem?_eq_some_iff.1 hy
   exact hp s t h1 h2 hst
theorem putL_mem {x z : En} : ∀ {l : List En} {p : Bool}, z ∈ putL x p l → z = x ∨ z ∈ l
 | [], p, h => by
  cases p
  · exact .inl (by simpa [putL] using h)
  · simp [putL] at h
 | y :: l, p, h => by
  simp only [putL, List.mem_append] at h
  rcases h with h | h | h
  · split at h
    · exact .inl (by simpa using h)
    · cases h
  · split at h
    · exact .inr (by simp at h; simp [h])
    · cases h
  · rcases putL_mem h with h | h
    · exact .inl h
    · exact .inr (List.mem_cons_of_mem _ h)
theorem putL_len {x : En} : ∀ {l : List En} {p : Bool}, (putL x p l).length ≤ l.length + (if p then 0 else 1)
 | [], p => by cases p <;> simp [putL]
 | y :: l, p => by
  have ih := putL_len (x := x) (l := l) (p := p || decide (cmpB x.addr y.addr ≤ 0))
  simp only [putL, List.length_append, List.length_cons]
  cases p
  · by_cases h : cmpB x.addr y.addr ≤ 0
    · rw [if_pos ⟨rfl, h⟩]
      simp [h] at ih ⊢
      split <;> simp <;> omega
    · rw [if_neg (fun h2 => h h2.2)]
      simp [h] at ih ⊢
      split <;> simp <;> omega
  · simp at ih ⊢
    split <;> simp <;> omega
theorem putL_pw {x : En} : ∀ {l : List En}, l.Pairwise (fun x y => cmpB x.addr y.addr < 0) → (putL x false l).Pairwise fun x y => cmpB x.addr y.addr < 0
 | [], _ => by simp [putL]
 | y :: l, h => by
  have h4 := cmpB_anti x.addr y.addr
  obtain ⟨hy, hl⟩ := List.pairwise_cons.1 h
  simp only [putL]
  by_cases h1 : cmpB x.addr y.addr ≤ 0
  · rw [if_pos ⟨trivial, h1⟩, show (false || decide (cmpB x.addr y.addr ≤ 0)) = true by simp [h1]]
    by_cases h5 : cmpB x.addr y.addr = 0
    · have e : x.addr = y.addr := cmpB_zero.1 h5
      rw [if_neg (by omega), putL_true x l (fun z hz => by rw [e]; exact hy z hz)]
      exact List.pairwise_cons.2 ⟨fun z hz => by rw [e]; exact hy z (by simpa using hz), by simpa using hl⟩
    · have h6 : cmpB x.addr y.addr < 0 := by omega
      rw [if_pos h5, putL_true x l (fun z hz => cmpB_trans h6 (hy z hz))]
      refine List.pairwise_cons.2 ⟨fun z hz => ?_, h⟩
      rcases List.mem_cons.1 (show z ∈ y :: l from hz) with rfl | hz
      · exact h6
      · exact cmpB_trans h6 (hy z hz)
  · rw [if_neg (fun h2 => h1 h2.2), if_pos (by omega), show (false || decide (cmpB x.addr y.addr ≤ 0)) = false by simp; omega]
    refine List.pairwise_cons.2 ⟨fun z hz => ?_, putL_pw hl⟩
    rcases putL_mem hz with rfl | hz
    · omega
    · exact hy z hz
theorem Srt.put {x : En} {l : List En} (h : Srt l) : Srt (putL x false l) := srt_iff.2 (putL_pw (srt_iff.1 h))
theorem Srt.erase {k : Nat} {l : List En} (h : Srt l) : Srt (l.eraseIdx k) := srt_iff.2 ((srt_iff.1 h).sublist (List.eraseIdx_sublist l k))
theorem Srt.setK {l : List En} {k : Nat} {x z : En} (h : Srt l) (hx : l[k]? = some x) (hz : z.addr = x.addr) : Srt (l.set k z) := by
 have key : ∀ (t : Nat) (b : En), (l.set k z)[t]? = some b → ∃ b', l[t]? = some b' ∧ b'.addr = b.addr := by
  intro t b hb
  rw [List.getElem?_set] at hb
  split at hb
  · rename_i e
    subst e
    split at hb
    · cases hb; exact ⟨x, hx, hz.symm⟩
    · cases hb
  · exact ⟨b, hb, rfl⟩
 intro s t a b hst ha hb
 obtain ⟨a', ha1, ha2⟩ := key s a ha
 obtain ⟨b', hb1, hb2⟩ := key t b hb
 rw [← ha2, ← hb2]
 exact h s t a' b' hst ha1 hb1
theorem tntS_srt {n : Int} {r : Bool} {p : List Int} {l : List En} (h : Srt l) : Srt (tntS n r p l) := by
 unfold tntS
 split
 · exact h
 · split
   · split
     · rename_i x hx
       exact h.setK hx rfl
     · exact h
   · split
     · exact h.put
     · exact h
theorem tntS_len {n : Int} {r : Bool} {p : List Int} {l : List En} : (tntS n r p l).length ≤ l.length + 1 := by
 unfold tntS
 split
 · omega
 · split
   · split
     · simp
     · omega
   · split
     · exact putL_len
     · omega
theorem doS_len (s : Sta) (e : Ev) : (doS s e).ents.length ≤ s.ents.length + 1 := by
 unfold doS
 repeat' split
 all_goals dsimp only
 · omega
 · omega
 · exact putL_len
 · exact Nat.le_succ_of_le (List.eraseIdx_sublist _ _).length_le
 · omega
 · exact tntS_len
theorem doS_inv {s : Sta} {e : Ev} (h : InvS s) (hm : mayS s e = true) : InvS (doS s e) := by
 have hlt : 0 ≤ s.serial + 1 ∧ s.serial + 1 ≤ 1000000 := by
  have := h.ser
  simp only [mayS, Bool.and_eq_true, decide_eq_true_eq] at hm
  omega
 unfold doS
 split
 · exact ⟨h.srt, hlt, fun hp => ⟨rfl, (h.opn hp).2⟩⟩
 split
 · rename_i k0 k
   simp [mayS, k] at hm
   exact ⟨h.srt, hlt, fun hp => ⟨hm.2.1, by simpa using hm.2.2.2.1⟩⟩
 split
 · exact ⟨h.srt.put, hlt, fun hp => absurd rfl hp⟩
 split
 · exact ⟨h.srt.erase, hlt, fun hp => absurd rfl hp⟩
 split
 · exact ⟨h.srt, hlt, fun hp => absurd rfl hp⟩
 · exact ⟨tntS_srt h.srt, hlt, fun hp => absurd rfl hp⟩
theorem en_map {p : List Int} {n : Int} {t : Bool} (h1 : p.length ≤ 1048576) (h2 : byteOk p = true) : NOk ⟨p, ⟨5, 0, [], [], []⟩, [], t, n⟩ :=
 ⟨h1, h2, .mk ⟨by simp [lenB, Val.s], ⟨by simp [Val.k], fun b hb => by cases hb⟩, by simp [Val.l]⟩ (fun u hu => by cases hu), .mk ⟨rfl, fun b hb => by cases hb⟩ (fun u hu => by cases hu), by simp [ptV, ptVs], ⟨by simp, fun b hb => by cases hb⟩, fun b hb => by cases hb⟩
theorem tntS_all {n : Int} {r : Bool} {p : List Int} {l : List En} (h1 : p.length ≤ 1048576) (h2 : byteOk p = true) (h : ∀ x ∈ l, NOk x) : ∀ x ∈ tntS n r p l, NOk x := by
 intro z hz
 unfold tntS at hz
 split at hz
 · exact h z hz
 · split at hz
   · split at hz
     · rename_i x hx
       rcases List.mem_or_eq_of_mem_set hz with hz | rfl
       · exact h z hz
       · have := h x (List.mem_of_getElem? hx)
         exact ⟨this.addr, this.addrB, this.vl, this.vb, this.vp, this.dl, this.db⟩
     · exact h z hz
   · split at hz
     · rcases putL_mem hz with rfl | hz
       · exact en_map h1 h2
       · exact h z hz
     · exact h z hz
theorem doS_ok {s : Sta} {e : Ev} (h : SOk s) (he : EOk e) (hl : s.ents.length < 1048576) : SOk (doS s e) := by
 have h0 := doS_len s e
 have hn : NOk ⟨e.addr, e.val, e.deps, false, s.serial + 1⟩ := ⟨he.addr, he.addrB, he.vl, he.vb, he.vp, he.dl, he.db⟩
 refine ⟨?_, ?_, by omega, ?_⟩
 · unfold doS
   repeat' split
   all_goals first | exact h.pend | exact he.addr | simp
 · unfold doS
   repeat' split
   all_goals first | exact h.pendB | exact he.addrB | rfl
 · unfold doS
   repeat' split
   · exact h.all
   · exact h.all
   · intro z hz
     rcases putL_mem hz with rfl | hz
     · exact hn
     · exact h.all z hz
   · intro z hz
     exact h.all z ((List.eraseIdx_sublist _ _).subset hz)
   · exact h.all
   · exact tntS_all h.pend h.pendB h.all
def okF : Sta → List Ev → Bool
 | _, [] => true
 | s, e :: l => mayS s e && okF (doS s e) l
def okS : Sta → List Ev → Bool
 | _, [] => true
 | s, e :: l => evB e && (mayS s e && okS (doS s e) l)
theorem okS_is : ∀ (l : List Ev) (s : Sta), okS s l = (l.all evB && okF s l)
 | [], s => rfl
 | e :: l, s => by
  rw [okS, okS_is l, okF, List.all_cons]
  cases evB e <;> cases mayS s e <;> simp
end Go.Proofs.YtgbfmdihmnpcdaaGreatDoor
