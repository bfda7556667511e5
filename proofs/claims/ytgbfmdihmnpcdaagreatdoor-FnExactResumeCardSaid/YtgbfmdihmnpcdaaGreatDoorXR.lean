/- What is known of the library's functions, over the model: comparisons of bytes, numbers out of texts; what is asked of the program. -/
import Derived.Test.YtgbfmdihmnpcdaaGreatDoorT0
import Derived.Test.YtgbfmdihmnpcdaaGreatDoorX0
import Derived.Test.YtgbfmdihmnpcdaaGreatDoorXK
import Derived.Lib.Strings
import Derived.Lib.Walk
import Derived.WalkKit
import Derived.Lib.BytesEntry
import Derived.Lib.ItoaMem
import Derived.Lib.ItoaLen
namespace Go.Proofs.YtgbfmdihmnpcdaaGreatDoor
open Go Go.Pm Go.Proofs Go.RowKit
set_option linter.unusedVariables false
set_option linter.unusedSimpArgs false
set_option maxHeartbeats 1000000 in
set_option maxRecDepth 100000 in
theorem cmp_calls (v0 v1 : Value) (a b : ByteArray) (w : World) (h0 : (Extern.Bytes.bytesOf v0).run Tryz.prog w = .ok a w) (h1 : (Extern.Bytes.bytesOf v1).run Tryz.prog w = .ok b w) :
    Calls Tryz.prog 145 #[v0, v1] w fun e w' => e = .returned (.int .i64 (Lib.compareBytes a.data.toList b.data.toList)) ∧ w' = w := by
 have hrun : (Extern.BytealgCompare.compare #[v0, v1]).run Tryz.prog w = .ok (.int .i64 (Lib.compareBytes a.data.toList b.data.toList)) w := by
  change Sem.run Tryz.prog (do pure (goInt (Extern.BytealgCompare.cmp (← Extern.Bytes.bytesOf v0) (← Extern.Bytes.bytesOf v1)))) w = _
  simp only [Sem.run_bind, h0, h1, Sem.run_pure, Result.andThen]
  rw [Lib.cmp_eq]
  rfl
 have mixed := mixed
 go_enter Tryz.func145, Tryz.ntmps145
 go_wp2
 rw [run_callFunc_extern Tryz.func171 (by kernel_rfl) (by kernel_rfl) (by kernel_rfl) (e := Extern.BytealgCompare.compare) (by kernel_rfl), hrun]
 simp only [Result.andThen]
 rw [Oper.upon_value]
 go_wp2
 go_ret
 exact ⟨rfl, rfl⟩
set_option maxHeartbeats 1000000 in
set_option maxRecDepth 100000 in
theorem idx_calls (v0 : Value) (c : Int) (n : Int) (w : World) (hrun : (Extern.BytealgIndexByte.indexByte #[v0, .int .u8 c]).run Tryz.prog w = .ok (.int .i64 n) w) :
    Calls Tryz.prog 161 #[v0, .int .u8 c] w fun e w' => e = .returned (.int .i64 n) ∧ w' = w := by
 have mixed := mixed
 go_enter Tryz.func161, Tryz.ntmps161
 go_wp2
 rw [run_callFunc_extern Tryz.func181 (by kernel_rfl) (by kernel_rfl) (by kernel_rfl) (e := Extern.BytealgIndexByte.indexByte) (by kernel_rfl), hrun]
 simp only [Result.andThen]
 rw [Oper.upon_value]
 go_wp2
 go_ret
 exact ⟨rfl, rfl⟩
theorem run_bytes {P : Program} {w : World} {R U : Nat → Prop} {v : Value} {rows : List (List PV)} {ns : List Int} (h : Rep w R U v (.sl rows)) (hb : Pm.bytesOf rows = some ns) : (Extern.Bytes.bytesOf v).run P w = .ok ⟨(Lib.bytesOf ns).toArray⟩ w := by
 obtain ⟨hlen, hget⟩ := bytesOf_get hb
 cases h with
 | nil =>
  rename_i A c
  have : ns = [] := List.eq_nil_of_length_eq_zero (by simpa using hlen)
  subst this
  cases A with
  | none => simp [Extern.Bytes.bytesOf, Lib.bytesOf]; rfl
  | some a => exact Lib.run_loadBytesX w [] a .empty (fun j x h => by cases h)
 | sl u hs hr hl hk hc hrep =>
  rename_i ad c k
  have := Lib.run_loadBytesX (P := P) w ns ad .empty (fun j x hj => by
   have hg := hget j x hj
   have hk1 : k = 1 := (hk j _ hg).symm
   subst hk1
   have h1 := hc j _ 0 _ hg rfl
   have h2 := hrep j _ 0 _ hg rfl
   generalize u j 0 = y at h1 h2
   cases h2
   have e : ad.add j = ⟨ad.block, ad.off + j, none⟩ := by
    unfold Addr.add
    split
    · rename_i hj0; subst hj0; cases ad; simp_all
    · cases ad; simp_all
   rw [e]
   simpa using h1)
  rw [hlen] at this
  simpa [Extern.Bytes.bytesOf] using this
theorem byteOk_cons' {x : Int} {l : List Int} (h : byteOk (x :: l) = true) : (0 ≤ x ∧ x < 256) ∧ byteOk l = true := by
 simp only [byteOk, List.all_cons, Bool.and_eq_true, decide_eq_true_eq] at h
 exact ⟨h.1, h.2⟩
theorem u8_nat {n : Int} (h : 0 ≤ n ∧ n < 256) : ((UInt8.ofNat n.toNat).toNat : Int) = n := by
 have : n.toNat % 256 = n.toNat := Nat.mod_eq_of_lt (by omega)
 simp [this]
 omega
theorem u8_lt {a b : Int} (ha : 0 ≤ a ∧ a < 256) (hb : 0 ≤ b ∧ b < 256) : UInt8.ofNat a.toNat < UInt8.ofNat b.toNat ↔ a < b := by
 rw [UInt8.lt_iff_toNat_lt]
 have h1 := u8_nat ha
 have h2 := u8_nat hb
 omega
theorem cmp_is : ∀ {k l : List Int}, byteOk k = true → byteOk l = true → Lib.compareBytes (Lib.bytesOf k) (Lib.bytesOf l) = cmpB k l
 | [], [], _, _ => rfl
 | [], b :: l, _, _ => rfl
 | a :: k, [], _, _ => rfl
 | a :: k, b :: l, hk, hl => by
  obtain ⟨ha, hk⟩ := byteOk_cons' hk
  obtain ⟨hb, hl⟩ := byteOk_cons' hl
  have ih := cmp_is hk hl
  have h1 := u8_lt ha hb
  have h2 := u8_lt hb ha
  simp only [Lib.bytesOf, List.map_cons, Lib.compareBytes, cmpB] at ih ⊢
  rw [ih]
  by_cases e1 : a < b
  · rw [if_pos (h1.2 e1), if_pos e1]
  · rw [if_neg (fun h => e1 (h1.1 h)), if_neg e1]
    by_cases e2 : b < a
    · rw [if_pos (h2.2 e2), if_pos e2]
    · rw [if_neg (fun h => e2 (h2.1 h)), if_neg e2]
theorem idx_shift (c : Int) : ∀ (l : List Int) (i : Nat), idxB c l i = if idxB c l 0 = -1 then -1 else idxB c l 0 + i
 | [], i => rfl
 | a :: l, i => by
  have h1 := idx_shift c l (i + 1)
  have h2 := idx_shift c l 1
  by_cases e : a = c
  · simp [idxB, e]
  · have x1 : idxB c (a :: l) i = idxB c l (i + 1) := by rw [idxB, if_neg e]
    have x0 : idxB c (a :: l) 0 = idxB c l 1 := by rw [idxB, if_neg e]
    simp only [x1, x0, h1, h2]
    have h3 : idxB c l 0 = -1 ∨ 0 ≤ idxB c l 0 := by
     clear h1 h2 e x1 x0
     suffices h : ∀ (l : List Int) (i : Nat), idxB c l i = -1 ∨ 0 ≤ idxB c l i from h l 0
     intro l
     induction l with
     | nil => intro i; exact .inl rfl
     | cons x l ih => intro i; simp only [idxB]; split; omega; exact ih (i + 1)
    by_cases e2 : idxB c l 0 = -1
    · simp [e2]
    · rw [if_neg e2, if_neg e2, if_neg (by omega)]; omega
theorem idx_is {c : Int} (hc : 0 ≤ c ∧ c < 256) : ∀ {l : List Int}, byteOk l = true → Lib.indexByte (Lib.bytesOf l) c.toNat.toUInt8 = idxB c l 0
 | [], _ => rfl
 | a :: l, hl => by
  obtain ⟨ha, hl⟩ := byteOk_cons' hl
  have ih := idx_is hc hl
  have h2 := idx_shift c l 1
  simp only [Lib.bytesOf, List.map_cons, Lib.indexByte, idxB] at ih ⊢
  rw [ih, h2]
  by_cases e : a = c
  · subst e
    simp
  · have : (UInt8.ofNat a.toNat == c.toNat.toUInt8) = false := by
      rw [beq_eq_false_iff_ne]
      intro h
      apply e
      rw [← u8_nat ha, ← u8_nat hc, h]
    rw [this, if_neg e]
    simp
theorem no_pure : ∀ i ob, Pm.look ([] : Hp) i = some ob → pureO ob = true := fun i ob h => by cases h
theorem two_args {vs : Array Value} (h2 : vs.size = 2) : ∃ v0 v1, vs = #[v0, v1] := by
 refine ⟨vs[0], vs[1], ?_⟩
 apply Array.ext
 · simp [h2]
 · intro i h1 h3
   have : i = 0 ∨ i = 1 := by omega
   rcases this with rfl | rfl <;> rfl
theorem one_arg {vs : Array Value} (h : vs.size = 1) : ∃ v, vs = #[v] := by
 refine ⟨vs[0], ?_⟩
 apply Array.ext
 · simp [h]
 · intro i h1 h3
   have : i = 0 := by omega
   subst this
   rfl
theorem lo_same {m : Mp} {out : Hp} : Lo m out m := fun _ _ _ h _ => h
theorem cmp_spec (b b' : Bool) (r q : List (List PV)) (k l : List Int) (hr : Pm.bytesOf r = some k) (hq : Pm.bytesOf q = some l) (hk : byteOk k = true) (hl : byteOk l = true) : SpecF C0 145 [.pv b (.sl r), .pv b' (.sl q)] [] ((iv (cmpB k l))) [] := by
 refine ⟨⟨Tryz.f145, Tryz.func145, by kernel_rfl, by kernel_rfl⟩, rfl, no_pure, fun w own0 S m vs M hG hsz hargs => ?_⟩
 have hv0 := hargs 0 _ rfl
 have hv1 := hargs 1 _ rfl
 obtain ⟨v0, v1, rfl⟩ := two_args hsz
 have e0 : (#[v0, v1] : Array Value).getD 0 undef = v0 := rfl
 have e1 : (#[v0, v1] : Array Value).getD 1 undef = v1 := rfl
 rw [e0] at hv0
 rw [e1] at hv1
 refine (cmp_calls v0 v1 _ _ w (run_bytes hv0.pvv hr) (run_bytes hv1.pvv hq)).mono ?_
 rintro e w' ⟨rfl, rfl⟩
 exact ⟨_, m, rfl, M, by rw [show (⟨(Lib.bytesOf k).toArray⟩ : ByteArray).data.toList = Lib.bytesOf k from rfl, show (⟨(Lib.bytesOf l).toArray⟩ : ByteArray).data.toList = Lib.bytesOf l from rfl, cmp_is hk hl]; exact .pv (.sc rfl), lo_same⟩
theorem idx_spec (b b' : Bool) (r : List (List PV)) (c : Int) (l : List Int) (hr : Pm.bytesOf r = some l) (hl : byteOk l = true) (hc : 0 ≤ c ∧ c < 256) : SpecF C0 161 [.pv b (.sl r), .pv b' (.sc (.int .u8 c))] [] ((iv (idxB c l 0))) [] := by
 refine ⟨⟨Tryz.f161, Tryz.func161, by kernel_rfl, by kernel_rfl⟩, rfl, no_pure, fun w own0 S m vs M hG hsz hargs => ?_⟩
 have hv0 := hargs 0 _ rfl
 have hv1 := hargs 1 _ rfl
 obtain ⟨v0, v1, rfl⟩ := two_args hsz
 have e0 : (#[v0, v1] : Array Value).getD 0 undef = v0 := rfl
 have e1 : (#[v0, v1] : Array Value).getD 1 undef = v1 := rfl
 rw [e0] at hv0
 rw [e1] at hv1
 obtain ⟨rfl, _⟩ := hv1.scv
 have hrun : (Extern.BytealgIndexByte.indexByte #[v0, .int .u8 c]).run Tryz.prog w = .ok (.int .i64 (idxB c l 0)) w := by
  have hs := Lib.run_indexByteString (P := Tryz.prog) ⟨(Lib.bytesOf l).toArray⟩ c w
  rw [show (⟨(Lib.bytesOf l).toArray⟩ : ByteArray).data.toList = Lib.bytesOf l from rfl, idx_is hc hl] at hs
  have hb := run_bytes (P := Tryz.prog) hv0.pvv hr
  change Sem.run Tryz.prog (do
   let b ← Extern.Bytes.bytesOf v0
   let c ← Extern.Bytes.asByte (.int .u8 c)
   match (List.range b.size).find? fun i => b[i]! == c with
   | some i => pure (goInt i)
   | none => pure (goInt (-1))) w = _
  change Sem.run Tryz.prog (do
   let b ← Extern.Bytes.bytesOf (.string ⟨(Lib.bytesOf l).toArray⟩)
   let c ← Extern.Bytes.asByte (.int .u8 c)
   match (List.range b.size).find? fun i => b[i]! == c with
   | some i => pure (goInt i)
   | none => pure (goInt (-1))) w = _ at hs
  simp only [Sem.run_bind, hb, Result.andThen]
  simp only [Extern.Bytes.bytesOf, Sem.run_bind, Sem.run_pure, Result.andThen] at hs
  exact hs
 refine (idx_calls v0 c _ w hrun).mono ?_
 rintro e w' ⟨rfl, rfl⟩
 exact ⟨_, m, rfl, M, .pv (.sc rfl), lo_same⟩
theorem mem_below {w w' : World} {own0 S : Nat → Prop} {m : Mp} (M : Mem w own0 S [] w m) (h : Below w.heap.size w w') : Mem w own0 S [] w' m :=
 M.world ⟨h.os, h.tape, h.output, h.size, fun d => d.elim⟩ fun b hb => h.block b hb
theorem var_cell {w : World} {n : String} {g : Nat} {v : Value} (hg : Tryz.prog.globalNamed n = some g) (h : w.var? Tryz.prog n = some #[v]) : w.cell? ⟨g, 0, none⟩ = some v := by
 have := World.var?_cell hg h 0
 simpa using this
theorem atoi_spec (b : Bool) (s : ByteArray) (hs : s.size ≤ 281474976710656) : SpecF C0 110 [.pv b (.sc (.string s))] [] (atoiV s) [] := by
 refine ⟨⟨Tryz.f110, Tryz.func110, by kernel_rfl, by kernel_rfl⟩, ?_, no_pure, fun w own0 S m vs M hG hsz hargs => ?_⟩
 · unfold atoiV
   cases Lib.atoiAll s.data.toList <;> rfl
 have hv0 := hargs 0 _ rfl
 obtain ⟨v0, rfl⟩ := one_arg hsz
 have e0 : (#[v0] : Array Value).getD 0 undef = v0 := rfl
 rw [e0] at hv0
 obtain ⟨rfl, _⟩ := hv0.scv
 obtain ⟨_, _, ⟨t1, a1, h1⟩, ⟨t2, a2, h2⟩, _⟩ := hG
 have g1 := var_cell (g := 1) (by kernel_rfl) h1
 have g2 := var_cell (g := 2) (by kernel_rfl) h2
 have tup : ∀ {w' : World} {R U : Nat → Prop} {x y : Value} {tx ty : TV}, RepT w' m R U x tx → RepT w' m R U y ty → RepT w' m R U (.tuple #[x, y]) (.tu [tx, ty]) := fun hx hy => .tu rfl fun j t hj => by
  match j with
  | 0 => cases hj; exact hx
  | 1 => cases hj; exact hy
  | j + 2 => simp at hj
 unfold atoiV
 cases hA : Lib.atoiAll s.data.toList with
 | ok v =>
  refine (Any.strconv_Atoi_ok Tryz.laysAtoi s (by omega) v hA w).mono ?_
  rintro e w' ⟨rfl, hw⟩
  refine ⟨_, m, rfl, ?_, tup (.pv (.sc rfl)) (.pv (.sc rfl)), lo_same⟩
  rcases hw with rfl | ⟨t, rfl⟩
  · exact M
  · exact mem_below M ⟨rfl, rfl, rfl, by rw [Lib.bytesWorld_size]; omega, fun k hk => Lib.bytesWorld_at_old w _ t k hk⟩
 | range =>
  refine (Any.strconv_Atoi_range Tryz.laysAtoi s hs hA _ w g2 (.inr ⟨_, _, rfl⟩)).mono ?_
  rintro e w' ⟨N, rfl, _, _, hb⟩
  exact ⟨_, m, rfl, mem_below M hb, tup (.pv (.sc rfl)) .er, lo_same⟩
 | _ =>
  refine (Any.strconv_Atoi_syntax Tryz.laysAtoi s hs hA _ w g1 (.inr ⟨_, _, rfl⟩)).mono ?_
  rintro e w' ⟨N, rfl, _, _, hb⟩
  exact ⟨_, m, rfl, mem_below M hb, tup (.pv (.sc rfl)) .er, lo_same⟩
theorem dig_is : ∀ u : Nat, (Lib.decDigits u).map (fun b => (b.toNat : Int)) = digN u := by
 intro u
 induction u using Nat.strongRecOn with
 | ind u ih =>
  rw [Lib.decDigits, digN]
  split
  · have : (48 + u) % 256 = 48 + u := Nat.mod_eq_of_lt (by omega)
    simp [this]
  · have : (48 + u % 10) % 256 = 48 + u % 10 := Nat.mod_eq_of_lt (by omega)
    rw [List.map_append, ih (u / 10) (by omega)]
    simp [this]
theorem ndig_is (u : Nat) : Lib.nDigits u = (digN u).length := by rw [← dig_is, List.length_map, Lib.decDigits_length]
theorem p10_is : pow10T = Lib.pow10Tab := by decide +kernel
theorem nd_spec (b : Bool) (n : Int) (h1 : 1 ≤ n) (h2 : n < 18446744073709551616) : SpecF C0 187 [.pv b (.sc (.int .u64 n))] [] ((iv (((digN n.toNat).length : Int)))) [] := by
 refine ⟨⟨Tryz.f187, Tryz.func187, by kernel_rfl, by kernel_rfl⟩, rfl, no_pure, fun w own0 S m vs M hG hsz hargs => ?_⟩
 have hv0 := hargs 0 _ rfl
 obtain ⟨v0, rfl⟩ := one_arg hsz
 have e0 : (#[v0] : Array Value).getD 0 undef = v0 := rfl
 rw [e0] at hv0
 obtain ⟨rfl, _⟩ := hv0.scv
 obtain ⟨_, _, _, _, ht⟩ := hG
 rw [p10_is] at ht
 obtain ⟨u, rfl⟩ : ∃ u : Nat, n = u := ⟨n.toNat, by omega⟩
 refine (Any.internal_strconv_numDigits Tryz.laysND u (by omega) (by omega) w ht).mono ?_
 rintro e w' ⟨rfl, rfl⟩
 exact ⟨_, m, rfl, M, by rw [ndig_is]; exact .pv (.sc rfl), lo_same⟩
theorem byte_mem {l : List Int} (h : byteOk l = true) {x : Int} (hx : x ∈ l) : 0 ≤ x ∧ x < 256 := by
 have := List.all_eq_true.1 h x hx
 simpa using this
theorem fb_spec (b : Bool) (e len : Nat) (rows : List (List PV)) (ns : List Int) (n : Int) (hb : Pm.bytesOf rows = some ns) (hok : byteOk ns = true) (hlen : len = (digN n.toNat).length) (hle : len ≤ rows.length) (h0 : 0 ≤ n) (h2 : n < 18446744073709551616) :
    SpecF C0 188 [.ref 0 0 len, .pv b (.sc (.int .u64 n))] [(0, .row .io e 1 rows)] (.tu []) [(0, .row .io e 1 (nums .u8 (digN n.toNat) ++ rows.drop len))] := by
 refine ⟨⟨Tryz.f188, Tryz.func188, by kernel_rfl, by kernel_rfl⟩, rfl, (fun i ob h => by
  simp only [Pm.look] at h
  split at h
  · cases h; rfl
  · cases h), fun w own0 S m vs M hG hsz hargs => ?_⟩
 have hv0 := hargs 0 _ rfl
 have hv1 := hargs 1 _ rfl
 obtain ⟨v0, v1, rfl⟩ := two_args hsz
 have e0 : (#[v0, v1] : Array Value).getD 0 undef = v0 := rfl
 have e1 : (#[v0, v1] : Array Value).getD 1 undef = v1 := rfl
 rw [e0] at hv0
 rw [e1] at hv1
 obtain ⟨rfl, _⟩ := hv1.scv
 obtain ⟨u, rfl⟩ : ∃ u : Nat, n = u := ⟨n.toNat, by omega⟩
 have hu : ((u : Nat) : Int).toNat = u := by omega
 rw [hu] at hlen ⊢
 have hnd : Lib.nDigits u = len := by rw [ndig_is, hlen]
 have hpos := Lib.nDigits_pos u
 obtain ⟨hbl, hbg⟩ := bytesOf_get hb
 have hlk : Pm.look [(0, OB.row .io e 1 rows)] 0 = some (.row .io e 1 rows) := rfl
 cases hv0 with
 | @ref _ _ _ c k A A' hm hoc hA =>
 have hob := M.obs 0 _ hlk
 rw [hm] at hob
 cases hob with
 | row g1 g2 g3 g4 g5 =>
 cases A with
 | none => have := g3 rfl; omega
 | some ad =>
 obtain ⟨hs, _, cells, c1, c2, c3⟩ := g5 ad rfl
 obtain ⟨bl, off, sp⟩ := ad
 simp only at hs
 subst hs
 have hA1 : A' = some ⟨bl, off, none⟩ := by
  rcases hA with h | h
  · simpa [Addr.add] using h
  · omega
 subst hA1
 dsimp only at c1 c2 c3
 have hcell : ∀ i (hi : i < ns.length), cells.getD (off + i) undef = .int .u8 ns[i] := fun i hi => by
  have h := c3 i _ 0 _ (hbg i ns[i] (List.getElem?_eq_getElem hi)) rfl
  rw [show off + (i * 1 + 0) = off + i by omega] at h
  generalize cells.getD (off + i) undef = y at h
  cases h
  rfl
 obtain ⟨d, hd⟩ : ∃ d : Array UInt8, d = ((ns.take len).map fun x => UInt8.ofNat x.toNat).toArray := ⟨_, rfl⟩
 have hds : d.size = len := by rw [hd]; simp; omega
 have hH : Sort.Holds (fun (b : UInt8) => Value.int .u8 (b.toNat : Int)) w bl off d := fun j hj => by
  rw [hds] at hj
  have hjn : j < ns.length := by omega
  refine ⟨?_, ?_⟩
  · rw [c1.cell]
    have h := hcell j hjn
    have hlt : off + j < cells.size := by omega
    have e : d[j]! = UInt8.ofNat ns[j].toNat := by
     rw [getElem!_pos d j (by omega)]
     subst hd
     simp
    rw [e]
    show cells[off + j]? = some (.int .u8 ((UInt8.ofNat ns[j].toNat).toNat : Int))
    rw [u8_nat (byte_mem hok (List.getElem_mem hjn)), ← h]
    simp [Array.getD_eq_getD_getElem?, hlt]
  · obtain ⟨fr, _, _, hf⟩ := c1
    exact hf _ (by omega)
 have hcall := Any.internal_strconv_formatBase10 Tryz.laysFB bl off (c - 0) u d w hH (by rw [hds, ← hnd]; exact Lib.lt_pow_nDigits u) (by omega) (by have := Lib.nDigits_le20 u (by omega); omega)
 rw [hds] at hcall
 refine hcall.mono ?_
 rintro e' w' ⟨rfl, q, v', dk, rfl, hF⟩
 rw [← hnd] at hF
 have hdk : dk.size = len := by rw [hF.size, hnd]
 have hdig : ∀ j (hj : j < (digN u).length), ((dk[j]!).toNat : Int) = (digN u)[j] := fun j hj => by
  have hj' : j < (Lib.decDigits u).length := by rw [Lib.decDigits_length, ndig_is]; exact hj
  rw [← Lib.row_is_numeral hF j hj']
  have : (digN u)[j] = ((Lib.decDigits u).map (fun b => (b.toNat : Int)))[j]'(by simpa using hj') := by simp only [dig_is]
  rw [this]; simp
 let w2 := (Sort.putRow (fun (b : UInt8) => Value.int .u8 (b.toNat : Int)) w bl off dk).drewN q
 have hon : On w w2 := ⟨rfl, rfl, rfl, by show w.heap.size ≤ (w.heap.modify bl _).size; simp, fun d => d.elim⟩
 have hoth : ∀ q, q ≠ bl → w2.heap[q]? = w.heap[q]? := fun q hq => by
  show (w.heap.modify bl _)[q]? = _
  rw [Array.getElem?_modify, if_neg (Ne.symm hq)]
 have hcs : Cells w2 bl e (Sort.putCells (fun (b : UInt8) => Value.int .u8 (b.toNat : Int)) off dk cells) := by
  have hlt := c1.lt
  obtain ⟨fr, k1, k2, k3⟩ := c1
  have e1 : w2.heap[bl]? = some (.cells (Sort.putCells (fun (b : UInt8) => Value.int .u8 (b.toNat : Int)) off dk cells) e fr) := by
   show (w.heap.modify bl _)[bl]? = _
   rw [Array.getElem?_modify, if_pos rfl, k1]
   rfl
  refine ⟨fr, e1, k2, fun o ho => ?_⟩
  have h3 := k3 o (by simpa [Sort.putCells] using ho)
  simpa [World.frozen?, e1, k1] using h3
 have hput : ∀ i, i < cells.size → (Sort.putCells (fun (b : UInt8) => Value.int .u8 (b.toNat : Int)) off dk cells).getD i undef = if off ≤ i ∧ i < off + dk.size then .int .u8 ((dk[i - off]!).toNat : Int) else cells.getD i undef := fun i hi => by
  simp [Sort.putCells, Array.getD_eq_getD_getElem?, hi]
 refine ⟨_, m, rfl, ?_, .tu rfl (fun j t hj => by simp at hj), lo_same⟩
 have hp' : [(0, OB.row .io e 1 (nums .u8 (digN u) ++ rows.drop len))] = put [(0, OB.row .io e 1 rows)] 0 (.row .io e 1 (nums .u8 (digN u) ++ rows.drop len)) := rfl
 rw [hp']
 refine M.put hon hlk (fun b' hb' => ?_) (fun b' hb' hn => hoth b' fun e => hn ?_) (fun _ h => by cases h) ?_
 · rw [hm] at hb' ⊢; exact hb'
 · rw [hm, e]; rfl
 · rw [hm]
   have hlen' : (nums .u8 (digN u) ++ rows.drop len).length = rows.length := by simp; omega
   refine .row (by omega) g2 g3 (fun r hr => ?_) (fun ad' hA => ?_)
   · rcases List.mem_append.1 hr with h | h
     · obtain ⟨x, _, rfl⟩ := List.mem_map.1 h; rfl
     · exact g4 r (List.mem_of_mem_drop h)
   · cases hA
     refine ⟨rfl, (fun h => by cases h), _, hcs, by simpa [Sort.putCells] using c2, fun i r j p hi hj => ?_⟩
     have hil : i < rows.length := by rw [← hlen']; exact (List.getElem?_eq_some_iff.1 hi).1
     dsimp only
     by_cases hi2 : i < len
     · have hi3 : i < (digN u).length := by omega
       rw [List.getElem?_append_left (by simpa using hi3)] at hi
       have er : r = numP .u8 (digN u)[i] := by
        have := (List.getElem?_eq_some_iff.1 hi).2
        rw [← this]; simp
       subst er
       cases j with
       | succ j => simp at hj
       | zero =>
        simp at hj
        subst hj
        rw [hput _ (by omega), if_pos (by omega), show off + (i * 1 + 0) - off = i by omega, hdig i hi3]
        exact .sc rfl
     · rw [List.getElem?_append_right (by simp; omega), List.getElem?_drop] at hi
       have hi4 : len + (i - (nums .u8 (digN u)).length) = i := by simp; omega
       rw [hi4] at hi
       have hl := g4 r (List.mem_of_getElem? hi)
       have hj0 : j = 0 := by have := (List.getElem?_eq_some_iff.1 hj).1; omega
       subst hj0
       rw [hput _ (by omega), if_neg (by omega)]
       refine (c3 i r 0 p hi hj).ofSc ?_
       have := hbg i ns[i] (List.getElem?_eq_getElem (by omega))
       rw [hi] at this
       rw [Option.some.inj this] at hj
       simp at hj
       rw [← hj]
       rfl
theorem ext_ok (f : FuncId) (ts : List TV) (hp : Hp) (r : TV) (out : Hp) (h : ext0 f ts hp = some (r, out)) : SpecF C0 f ts hp r out := by
 unfold ext0 at h
 by_cases h1 : f = 145
 · subst h1
   simp only [beq_self_eq_true, cond_true] at h
   unfold extBB at h
   split at h
   · split at h
     · rename_i a b ha hb
       split at h
       · rename_i hok
         simp only [Bool.and_eq_true] at hok
         cases h
         exact cmp_spec _ _ _ _ a b ha hb hok.1 hok.2
       · cases h
     · cases h
   · cases h
 have e1 : (f == 145) = false := by simpa using h1
 rw [e1] at h
 by_cases h2 : f = 161
 · subst h2
   simp only [beq_self_eq_true, cond_true, cond_false] at h
   unfold extBC at h
   split at h
   · split at h
     · rename_i a ha
       split at h
       · rename_i hok
         simp only [Bool.and_eq_true] at hok
         cases h
         refine idx_spec _ _ _ _ a ha hok.1 ?_
         have := hok.2
         simp [byteOk] at this
         exact this
       · cases h
     · cases h
   · cases h
 have e2 : (f == 161) = false := by simpa using h2
 rw [e2] at h
 by_cases h3 : f = 110
 · subst h3
   simp only [beq_self_eq_true, cond_true, cond_false] at h
   unfold extS at h
   split at h
   · split at h
     · rename_i hok
       cases h
       exact atoi_spec _ _ hok
     · cases h
   · cases h
 have e3 : (f == 110) = false := by simpa using h3
 rw [e3] at h
 by_cases h4 : f = 187
 · subst h4
   simp only [beq_self_eq_true, cond_true, cond_false] at h
   unfold extN at h
   split at h
   · split at h
     · rename_i hok
       cases h
       exact nd_spec _ _ hok.1 hok.2
     · cases h
   · cases h
 have e4 : (f == 187) = false := by simpa using h4
 rw [e4] at h
 by_cases h5 : f = 188
 · subst h5
   simp only [beq_self_eq_true, cond_true, cond_false] at h
   unfold extF at h
   split at h
   · split at h
     · rename_i ns hns
       split at h
       · rename_i hok
         cases h
         exact fb_spec _ _ _ _ ns _ hns hok.1 hok.2.1 hok.2.2.1 hok.2.2.2.1 hok.2.2.2.2
       · cases h
     · cases h
   · cases h
 have e5 : (f == 188) = false := by simpa using h5
 rw [e5] at h
 by_cases h6 : f = 158
 · subst h6
   simp only [beq_self_eq_true, cond_true, cond_false] at h
   unfold extI at h
   split at h
   · split at h
     · rename_i hok
       obtain ⟨rfl, rfl, rfl, rfl, rfl, o6, o7, o8, o9⟩ := hok
       cases h
       obtain ⟨u, rfl⟩ := Int.eq_ofNat_of_zero_le o6
       exact ins_spec _ u _ _ (by omega) o8 o9
     · cases h
   · split at h
     · rename_i hok
       obtain ⟨rfl, rfl, rfl, o4⟩ := hok
       cases h
       exact ins_nil _ _ o4
     · cases h
   · cases h
 · have e6 : (f == 158) = false := by simpa using h6
   rw [e6] at h
   cases h
theorem var_same {w w' : World} {n : String} {g : Nat} (hg : Tryz.prog.globalNamed n = some g) (h : w'.heap[g]? = w.heap[g]?) : w'.var? Tryz.prog n = w.var? Tryz.prog n := by
 simp [World.var?, hg, h]
theorem prog_ok : Prog C0 := ⟨tabOk, mixed, fun f fn h => by simpa using funcs_all names_ok h, fun f fn c h hc => by have := funcs_all dsts_ok h; rw [hc] at this; exact this, ext_ok, fun w w' hgw _ _ hb => by
 obtain ⟨h1, h2, h3⟩ := hgw
 refine ⟨?_, ?_, ?_⟩
 · rw [var_same (g := 1) (by kernel_rfl) (hb _ (by decide +kernel))]; exact h1
 · rw [var_same (g := 2) (by kernel_rfl) (hb _ (by decide +kernel))]; exact h2
 · unfold Lib.TabIs
   rw [var_same (g := 3) (by kernel_rfl) (hb _ (by decide +kernel))]; exact h3⟩
end Go.Proofs.YtgbfmdihmnpcdaaGreatDoor
