/- What is known of the library's functions, over the model: comparisons of bytes, what is put in; what is asked of the program; the closed call alive(). -/
import Derived.Test.YtmfnklfoocebhaaGreatDoorT0
import Derived.Test.YtmfnklfoocebhaaGreatDoorYK1
import Derived.Test.YtmfnklfoocebhaaGreatDoorYK2
import Derived.Test.YtmfnklfoocebhaaGreatDoorYK3
import Derived.Test.YtmfnklfoocebhaaGreatDoorYE6
import Derived.Lib.Strings
import Derived.Lib.Walk
import Derived.WalkKit
import Derived.Lib.BytesEntry
namespace Go.Proofs.YtmfnklfoocebhaaGreatDoor
open Go Go.Pm Go.Proofs Go.RowKit
set_option linter.unusedVariables false
set_option linter.unusedSimpArgs false
set_option maxHeartbeats 1000000 in
set_option maxRecDepth 100000 in
theorem cmp_calls (v0 v1 : Value) (a b : ByteArray) (w : World) (h0 : (Extern.Bytes.bytesOf v0).run Tryz.prog w = .ok a w) (h1 : (Extern.Bytes.bytesOf v1).run Tryz.prog w = .ok b w) :
    Calls Tryz.prog 91 #[v0, v1] w fun e w' => e = .returned (.int .i64 (Lib.compareBytes a.data.toList b.data.toList)) ∧ w' = w := by
  have hrun : (Extern.BytealgCompare.compare #[v0, v1]).run Tryz.prog w = .ok (.int .i64 (Lib.compareBytes a.data.toList b.data.toList)) w := by
    change Sem.run Tryz.prog (do pure (goInt (Extern.BytealgCompare.cmp (← Extern.Bytes.bytesOf v0) (← Extern.Bytes.bytesOf v1)))) w = _
    simp only [Sem.run_bind, h0, h1, Sem.run_pure, Result.andThen]
    rw [Lib.cmp_eq]
    rfl
  have mixed := mixed
  go_enter Tryz.func91, Tryz.ntmps91
  go_wp2
  rw [run_callFunc_extern Tryz.func148 (by kernel_rfl) (by kernel_rfl) (by kernel_rfl) (e := Extern.BytealgCompare.compare) (by kernel_rfl), hrun]
  simp only [Result.andThen]
  rw [Oper.upon_value]
  go_wp2
  go_ret
  exact ⟨rfl, rfl⟩
set_option maxHeartbeats 1000000 in
set_option maxRecDepth 100000 in
theorem idx_calls (v0 : Value) (c : Int) (n : Int) (w : World) (hrun : (Extern.BytealgIndexByte.indexByte #[v0, .int .u8 c]).run Tryz.prog w = .ok (.int .i64 n) w) :
    Calls Tryz.prog 226 #[v0, .int .u8 c] w fun e w' => e = .returned (.int .i64 n) ∧ w' = w := by
  have mixed := mixed
  go_enter Tryz.func226, Tryz.ntmps226
  go_wp2
  rw [run_callFunc_extern Tryz.func247 (by kernel_rfl) (by kernel_rfl) (by kernel_rfl) (e := Extern.BytealgIndexByte.indexByte) (by kernel_rfl), hrun]
  simp only [Result.andThen]
  rw [Oper.upon_value]
  go_wp2
  go_ret
  exact ⟨rfl, rfl⟩
/-- A slice of bytes that reads so, as the model's own functions see it. -/
theorem run_bytes {P : Program} {w : World} {R U : Nat → Prop} {v : Value} {rows : List (List PV)} {ns : List Int} (h : Rep w R U v (.sl rows)) (hb : Pm.bytesOf rows = some ns) : (Extern.Bytes.bytesOf v).run P w = .ok ⟨(Lib.bytesOf ns).toArray⟩ w := by
  obtain ⟨hlen, hget⟩ := bytesOf_get hb
  cases h with
  | nil =>
    rename_i A c
    have : ns = [] := List.eq_nil_of_length_eq_zero (by simpa using hlen)
    subst this
    cases A with
    | none => simp [Extern.Bytes.bytesOf, Lib.bytesOf]; rfl
    | some a => exact Lib.run_loadBytesX w [] a .empty (fun j x h => by cases h)
  | sl u hs hr hl hk hc hrep =>
    rename_i ad c k
    have := Lib.run_loadBytesX (P := P) w ns ad .empty (fun j x hj => by
      have hg := hget j x hj
      have hk1 : k = 1 := (hk j _ hg).symm
      subst hk1
      have h1 := hc j _ 0 _ hg rfl
      have h2 := hrep j _ 0 _ hg rfl
      generalize u j 0 = y at h1 h2
      cases h2
      have e : ad.add j = ⟨ad.block, ad.off + j, none⟩ := by
        unfold Addr.add
        split
        · rename_i hj0; subst hj0; cases ad; simp_all
        · cases ad; simp_all
      rw [e]
      simpa using h1)
    rw [hlen] at this
    simpa [Extern.Bytes.bytesOf] using this
theorem byteOk_cons' {x : Int} {l : List Int} (h : byteOk (x :: l) = true) : (0 ≤ x ∧ x < 256) ∧ byteOk l = true := by
  simp only [byteOk, List.all_cons, Bool.and_eq_true, decide_eq_true_eq] at h
  exact ⟨h.1, h.2⟩
theorem u8_nat {n : Int} (h : 0 ≤ n ∧ n < 256) : ((UInt8.ofNat n.toNat).toNat : Int) = n := by
  have : n.toNat % 256 = n.toNat := Nat.mod_eq_of_lt (by omega)
  simp [this]
  omega
theorem u8_lt {a b : Int} (ha : 0 ≤ a ∧ a < 256) (hb : 0 ≤ b ∧ b < 256) : UInt8.ofNat a.toNat < UInt8.ofNat b.toNat ↔ a < b := by
  rw [UInt8.lt_iff_toNat_lt]
  have h1 := u8_nat ha
  have h2 := u8_nat hb
  omega
theorem cmp_is : ∀ {k l : List Int}, byteOk k = true → byteOk l = true → Lib.compareBytes (Lib.bytesOf k) (Lib.bytesOf l) = cmpB k l
  | [], [], _, _ => rfl
  | [], b :: l, _, _ => rfl
  | a :: k, [], _, _ => rfl
  | a :: k, b :: l, hk, hl => by
    obtain ⟨ha, hk⟩ := byteOk_cons' hk
    obtain ⟨hb, hl⟩ := byteOk_cons' hl
    have ih := cmp_is hk hl
    have h1 := u8_lt ha hb
    have h2 := u8_lt hb ha
    simp only [Lib.bytesOf, List.map_cons, Lib.compareBytes, cmpB] at ih ⊢
    rw [ih]
    by_cases e1 : a < b
    · rw [if_pos (h1.2 e1), if_pos e1]
    · rw [if_neg (fun h => e1 (h1.1 h)), if_neg e1]
      by_cases e2 : b < a
      · rw [if_pos (h2.2 e2), if_pos e2]
      · rw [if_neg (fun h => e2 (h2.1 h)), if_neg e2]
theorem idx_shift (c : Int) : ∀ (l : List Int) (i : Nat), idxB c l i = if idxB c l 0 = -1 then -1 else idxB c l 0 + i
  | [], i => rfl
  | a :: l, i => by
    have h1 := idx_shift c l (i + 1)
    have h2 := idx_shift c l 1
    by_cases e : a = c
    · simp [idxB, e]
    · have x1 : idxB c (a :: l) i = idxB c l (i + 1) := by rw [idxB, if_neg e]
      have x0 : idxB c (a :: l) 0 = idxB c l 1 := by rw [idxB, if_neg e]
      simp only [x1, x0, h1, h2]
      have h3 : idxB c l 0 = -1 ∨ 0 ≤ idxB c l 0 := by
        clear h1 h2 e x1 x0
        suffices h : ∀ (l : List Int) (i : Nat), idxB c l i = -1 ∨ 0 ≤ idxB c l i from h l 0
        intro l
        induction l with
        | nil => intro i; exact .inl rfl
        | cons x l ih => intro i; simp only [idxB]; split; omega; exact ih (i + 1)
      by_cases e2 : idxB c l 0 = -1
      · simp [e2]
      · rw [if_neg e2, if_neg e2, if_neg (by omega)]; omega
theorem idx_is {c : Int} (hc : 0 ≤ c ∧ c < 256) : ∀ {l : List Int}, byteOk l = true → Lib.indexByte (Lib.bytesOf l) c.toNat.toUInt8 = idxB c l 0
  | [], _ => rfl
  | a :: l, hl => by
    obtain ⟨ha, hl⟩ := byteOk_cons' hl
    have ih := idx_is hc hl
    have h2 := idx_shift c l 1
    simp only [Lib.bytesOf, List.map_cons, Lib.indexByte, idxB] at ih ⊢
    rw [ih, h2]
    by_cases e : a = c
    · subst e
      simp
    · have : (UInt8.ofNat a.toNat == c.toNat.toUInt8) = false := by
        rw [beq_eq_false_iff_ne]
        intro h
        apply e
        rw [← u8_nat ha, ← u8_nat hc, h]
      rw [this, if_neg e]
      simp
theorem no_pure : ∀ i ob, Pm.look ([] : Hp) i = some ob → pureO ob = true := fun i ob h => by cases h
theorem two_args {vs : Array Value} (h2 : vs.size = 2) : ∃ v0 v1, vs = #[v0, v1] := by
  refine ⟨vs[0], vs[1], ?_⟩
  apply Array.ext
  · simp [h2]
  · intro i h1 h3
    have : i = 0 ∨ i = 1 := by omega
    rcases this with rfl | rfl <;> rfl
theorem one_arg {vs : Array Value} (h : vs.size = 1) : ∃ v, vs = #[v] := by
  refine ⟨vs[0], ?_⟩
  apply Array.ext
  · simp [h]
  · intro i h1 h3
    have : i = 0 := by omega
    subst this
    rfl
theorem lo_same {m : Mp} {out : Hp} : Lo m out m := fun _ _ _ h _ => h
theorem cmp_spec (b b' : Bool) (r q : List (List PV)) (k l : List Int) (hr : Pm.bytesOf r = some k) (hq : Pm.bytesOf q = some l) (hk : byteOk k = true) (hl : byteOk l = true) : SpecF C1 91 [.pv b (.sl r), .pv b' (.sl q)] [] ((.pv false (.sc (.int .i64 (cmpB k l))))) [] := by
  refine ⟨⟨Tryz.f91, Tryz.func91, by kernel_rfl, by kernel_rfl⟩, rfl, no_pure, fun w own0 S m vs M hG hsz hargs => ?_⟩
  have hv0 := hargs 0 _ rfl
  have hv1 := hargs 1 _ rfl
  obtain ⟨v0, v1, rfl⟩ := two_args hsz
  have e0 : (#[v0, v1] : Array Value).getD 0 undef = v0 := rfl
  have e1 : (#[v0, v1] : Array Value).getD 1 undef = v1 := rfl
  rw [e0] at hv0
  rw [e1] at hv1
  refine (cmp_calls v0 v1 _ _ w (run_bytes hv0.pvv hr) (run_bytes hv1.pvv hq)).mono ?_
  rintro e w' ⟨rfl, rfl⟩
  exact ⟨_, m, rfl, M, by rw [show (⟨(Lib.bytesOf k).toArray⟩ : ByteArray).data.toList = Lib.bytesOf k from rfl, show (⟨(Lib.bytesOf l).toArray⟩ : ByteArray).data.toList = Lib.bytesOf l from rfl, cmp_is hk hl]; exact .pv (.sc rfl), lo_same⟩
theorem idx_spec (b b' : Bool) (r : List (List PV)) (c : Int) (l : List Int) (hr : Pm.bytesOf r = some l) (hl : byteOk l = true) (hc : 0 ≤ c ∧ c < 256) : SpecF C1 226 [.pv b (.sl r), .pv b' (.sc (.int .u8 c))] [] ((.pv false (.sc (.int .i64 (idxB c l 0))))) [] := by
  refine ⟨⟨Tryz.f226, Tryz.func226, by kernel_rfl, by kernel_rfl⟩, rfl, no_pure, fun w own0 S m vs M hG hsz hargs => ?_⟩
  have hv0 := hargs 0 _ rfl
  have hv1 := hargs 1 _ rfl
  obtain ⟨v0, v1, rfl⟩ := two_args hsz
  have e0 : (#[v0, v1] : Array Value).getD 0 undef = v0 := rfl
  have e1 : (#[v0, v1] : Array Value).getD 1 undef = v1 := rfl
  rw [e0] at hv0
  rw [e1] at hv1
  obtain ⟨rfl, _⟩ := hv1.scv
  have hrun : (Extern.BytealgIndexByte.indexByte #[v0, .int .u8 c]).run Tryz.prog w = .ok (.int .i64 (idxB c l 0)) w := by
    have hs := Lib.run_indexByteString (P := Tryz.prog) ⟨(Lib.bytesOf l).toArray⟩ c w
    rw [show (⟨(Lib.bytesOf l).toArray⟩ : ByteArray).data.toList = Lib.bytesOf l from rfl, idx_is hc hl] at hs
    have hb := run_bytes (P := Tryz.prog) hv0.pvv hr
    change Sem.run Tryz.prog (do
      let b ← Extern.Bytes.bytesOf v0
      let c ← Extern.Bytes.asByte (.int .u8 c)
      match (List.range b.size).find? fun i => b[i]! == c with
      | some i => pure (goInt i)
      | none => pure (goInt (-1))) w = _
    change Sem.run Tryz.prog (do
      let b ← Extern.Bytes.bytesOf (.string ⟨(Lib.bytesOf l).toArray⟩)
      let c ← Extern.Bytes.asByte (.int .u8 c)
      match (List.range b.size).find? fun i => b[i]! == c with
      | some i => pure (goInt i)
      | none => pure (goInt (-1))) w = _ at hs
    simp only [Sem.run_bind, hb, Result.andThen]
    simp only [Extern.Bytes.bytesOf, Sem.run_bind, Sem.run_pure, Result.andThen] at hs
    exact hs
  refine (idx_calls v0 c _ w hrun).mono ?_
  rintro e w' ⟨rfl, rfl⟩
  exact ⟨_, m, rfl, M, .pv (.sc rfl), lo_same⟩
theorem ext_ok1 (f : FuncId) (ts : List TV) (hp : Hp) (r : TV) (out : Hp) (h : ext1 f ts hp = some (r, out)) : SpecF C1 f ts hp r out := by
  unfold ext1 at h
  by_cases h1 : f = 91
  · subst h1
    simp only [beq_self_eq_true, cond_true] at h
    unfold extBB at h
    split at h
    · split at h
      · rename_i a b ha hb
        split at h
        · rename_i hok
          simp only [Bool.and_eq_true] at hok
          cases h
          exact cmp_spec _ _ _ _ a b ha hb hok.1 hok.2
        · cases h
      · cases h
    · cases h
  have e1 : (f == 91) = false := by simpa using h1
  rw [e1] at h
  by_cases h2 : f = 226
  · subst h2
    simp only [beq_self_eq_true, cond_true, cond_false] at h
    unfold extBC at h
    split at h
    · split at h
      · rename_i a ha
        split at h
        · rename_i hok
          simp only [Bool.and_eq_true] at hok
          cases h
          refine idx_spec _ _ _ _ a ha hok.1 ?_
          have := hok.2
          simp [byteOk] at this
          exact this
        · cases h
      · cases h
    · cases h
  have e2 : (f == 226) = false := by simpa using h2
  rw [e2] at h
  by_cases h3 : f = 114
  · subst h3
    simp only [beq_self_eq_true, cond_true, cond_false] at h
    unfold extI at h
    split at h
    · split at h
      · rename_i hok
        obtain ⟨rfl, rfl, rfl, rfl, rfl, o6, o7, o8, o9⟩ := hok
        cases h
        obtain ⟨u, rfl⟩ := Int.eq_ofNat_of_zero_le o6
        exact I1.ins_spec _ u _ _ (by omega) o8 o9
      · cases h
    · split at h
      · rename_i hok
        obtain ⟨rfl, rfl, rfl, o4⟩ := hok
        cases h
        exact I1.ins_nil _ _ o4
      · cases h
    · cases h
  have e3 : (f == 114) = false := by simpa using h3
  rw [e3] at h
  by_cases h4 : f = 126
  · subst h4
    simp only [beq_self_eq_true, cond_true, cond_false] at h
    unfold extI at h
    split at h
    · split at h
      · rename_i hok
        obtain ⟨rfl, rfl, rfl, rfl, rfl, o6, o7, o8, o9⟩ := hok
        cases h
        obtain ⟨u, rfl⟩ := Int.eq_ofNat_of_zero_le o6
        exact I2.ins_spec _ u _ _ (by omega) o8 o9
      · cases h
    · split at h
      · rename_i hok
        obtain ⟨rfl, rfl, rfl, o4⟩ := hok
        cases h
        exact I2.ins_nil _ _ o4
      · cases h
    · cases h
  have e4 : (f == 126) = false := by simpa using h4
  rw [e4] at h
  by_cases h5 : f = 125
  · subst h5
    simp only [beq_self_eq_true, cond_true, cond_false] at h
    unfold extI at h
    split at h
    · split at h
      · rename_i hok
        obtain ⟨rfl, rfl, rfl, rfl, rfl, o6, o7, o8, o9⟩ := hok
        cases h
        obtain ⟨u, rfl⟩ := Int.eq_ofNat_of_zero_le o6
        exact I3.ins_spec _ u _ _ (by omega) o8 o9
      · cases h
    · split at h
      · rename_i hok
        obtain ⟨rfl, rfl, rfl, o4⟩ := hok
        cases h
        exact I3.ins_nil _ _ o4
      · cases h
    · cases h
  have e5 : (f == 125) = false := by simpa using h5
  rw [e5] at h
  cases h
theorem prog1 : Prog C1 := ⟨tabOk1, mixed, fun f fn h => by simpa using funcs_all names_ok h, fun f fn c h hc => by have := funcs_all dsts_ok h; rw [hc] at this; exact this, ext_ok1, fun _ _ _ _ _ _ => trivial⟩
theorem alive_spec : SpecF C1 6 [] [] (.pv false (.sc (.bool true))) [] := by
  have h := Ev.alive_row
  unfold Ev.RowOk at h
  rw [phi_at (C := C1) (c := code Tryz.f6) rfl Tryz.func6 (hasBody (by kernel_rfl))] at h
  exact lim_spec prog1 Tryz.func6 (hasBody (by kernel_rfl)) h
theorem ext_ok (f : FuncId) (ts : List TV) (hp : Hp) (r : TV) (out : Hp) (h : ext0 f ts hp = some (r, out)) : SpecF C0 f ts hp r out := by
  unfold ext0 at h
  by_cases h1 : f = 6
  · subst h1
    simp only [beq_self_eq_true, cond_true] at h
    unfold extA at h
    split at h
    · cases h
      exact alive_spec
    · cases h
  have e1 : (f == 6) = false := by simpa using h1
  rw [e1] at h
  exact ext_ok1 f ts hp r out h
theorem prog_ok : Prog C0 := ⟨tabOk, mixed, fun f fn h => by simpa using funcs_all names_ok h, fun f fn c h hc => by have := funcs_all dsts_ok h; rw [hc] at this; exact this, ext_ok, fun _ _ _ _ _ _ => trivial⟩
end Go.Proofs.YtmfnklfoocebhaaGreatDoor
