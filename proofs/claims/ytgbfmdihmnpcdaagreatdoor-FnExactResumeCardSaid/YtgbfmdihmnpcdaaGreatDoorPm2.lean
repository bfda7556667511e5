/- The pure machine, part 2: an evaluator of the translation's code over plain data, and that it is sound. -/
import Derived.Laws.IdiomStrings
import Derived.Laws.Tables
import Derived.Test.YtgbfmdihmnpcdaaGreatDoorPm1
set_option linter.unusedVariables false
set_option linter.unusedSimpArgs false
namespace Go.Pm
open Go
theorem run_equalIn_nil {P : Program} (w : World) (d t : Nat) {ms : Array (String × Nat)} (h : P.underlying t = some (.interface ms)) : (Op.equalIn (d + 1) t .nilIface .nilIface).run P w = .ok true w := by
 simp [Op.equalIn, run_underlying h]
theorem run_equalIn_ifc {P : Program} (w : World) (d t : Nat) {ms : Array (String × Nat)} (h : P.underlying t = some (.interface ms)) (a : TypeId) (b : Value) : (Op.equalIn (d + 1) t (.iface a b) .nilIface).run P w = .ok false w := by
 simp [Op.equalIn, run_underlying h]
theorem vrun {P : Program} {x : Sem Value} {u : Value} {w w' : World} (h : x.run P w = .ok u w') : (do pure (Next.value (← x)) : Sem Next).run P w = .ok (.value u) w' := by
 simp only [Sem.run_bind, h, Result.andThen_ok, Sem.run_pure]
section
variable [Dd] {C : Cfg} (hT : TabOk C) {w0 : World} {own0 S : Nat → Prop} {n : Nat} {s : St} {a : Act} {w : World} {m : Mp} (I : Inv w0 own0 S n s a w m)
abbrev POk (C : Cfg) (w0 : World) (S : Nat → Prop) (s : St) (a : Act) (w : World) (m : Mp) (o : Oper) (t : TV) : Prop :=
 ∃ u, (execOp a.eval o).run C.P w = .ok (.value u) w ∧ RepT w m (RR s.hp w m) (UU w0 S s.hp w m) u t
omit hT I in
theorem eqFields_ok (hT : TabOk C) {R U : Nat → Prop} {xs ys : Array Value} {cs ds : List TV} {d : Nat} : ∀ {fs : List (Nat × Nat)} {fields : List Field} {r : Bool}, fields.length = fs.length →
    (∀ (j : Nat) (p : Nat × Nat), fs[j]? = some p → ∃ f : Field, fields[j]? = some f ∧ f.offset = p.1 ∧ f.type = p.2) → (∀ f ∈ fields, f.name ≠ "_") → xs.size = cs.length → ys.size = ds.length →
    (∀ (j : Nat) (t : TV), cs[j]? = some t → RepT w m R U (xs.getD j undef) t) → (∀ (j : Nat) (t : TV), ds[j]? = some t → RepT w m R U (ys.getD j undef) t) → eqFs C.T fs cs ds = some r →
    ∀ w' : World, (Op.eqFields (d + 1) xs ys fields).run C.P w' = .ok r w' := by
 intro fs
 induction fs with
 | nil =>
  intro fields r hl _ _ _ _ _ _ h w'
  have : fields = [] := List.eq_nil_of_length_eq_zero hl
  subst this
  cases h
  rfl
 | cons p fs ih =>
  obtain ⟨off, ft⟩ := p
  intro fields r hl hf hn hs hs' hx hy h w'
  cases fields with
  | nil => simp at hl
  | cons f fields =>
   obtain ⟨f', e1, e2, e3⟩ := hf 0 _ rfl
   simp only [List.getElem?_cons_zero, Option.some.injEq] at e1
   subst e1
   dsimp only at e2 e3
   have hname := hn f (List.mem_cons_self ..)
   have ih' := fun r h => ih (fields := fields) (r := r) (by simpa using hl) (fun j p hj => by
    obtain ⟨g, g1, g2⟩ := hf (j + 1) p (by simpa using hj)
    exact ⟨g, by simpa using g1, g2⟩) (fun g hg => hn g (List.mem_cons_of_mem _ hg)) hs hs' hx hy h w'
   have prt : ∀ {zs : Array Value} {es : List TV} {u : Value} {ti : TI} {b : Bool}, zs.size = es.length → C.T ft = some ti → ti.kind.agg = false → (∀ (j : Nat) (t : TV), es[j]? = some t → RepT w m R U (zs.getD j undef) t) → es[off]? = some (.pv b (.sc u)) → (part f.type zs f.offset).run C.P w' = .ok u w' := by
    intro zs es u ti b h1 h2 h3 h4 h5
    have hlt : off < zs.size := by rw [h1]; exact (List.getElem?_eq_some_iff.1 h5).1
    obtain ⟨q, _⟩ := (h4 _ _ h5).scv
    simp only [part, e2, e3, (hT _ _ h2).agg w', h3, Sem.run_bind, Result.andThen_ok, Bool.false_eq_true, if_false, getD_arr hlt, Sem.run_pure, q]
   simp only [eqFs] at h
   split at h
   · rename_i sz1 by1 k0 zr1 b1 k a b2 k' b ht hc hd
     split at h
     · rename_i hk
       subst hk
       split at h
       · rename_i r0 hr0
         cases h
         have p1 := prt hs ht rfl hx hc
         have p2 := prt hs' ht rfl hy hd
         obtain ⟨dd, hd1, hd2⟩ := (hT _ _ ht).desc
         have hdd : ∃ k2, dd = .int k2 := by cases dd <;> simp [dOk] at hd2; exact ⟨_, rfl⟩
         obtain ⟨k2, rfl⟩ := hdd
         have p3 := run_equalIn_int (P := C.P) w' d f.type k k2 a b (by rw [e3]; exact hd1)
         simp only [Op.eqFields, if_pos hname, Sem.run_bind, p1, p2, Result.andThen_ok, p3]
         by_cases e : a = b
         · subst e
           simp [ih' r0 hr0]
         · simp [e]
       · cases h
     · cases h
   · rename_i sz1 by1 zr1 b1 a b2 b ht hc hd
     split at h
     · rename_i r0 hr0
       cases h
       have p1 := prt hs ht rfl hx hc
       have p2 := prt hs' ht rfl hy hd
       obtain ⟨dd, hd1, hd2⟩ := (hT _ _ ht).desc
       have hdd : dd = .bool := by cases dd <;> simp [dOk] at hd2; rfl
       subst hdd
       have p3 := run_equalIn_bool (P := C.P) w' d f.type a b (by rw [e3]; exact hd1)
       simp only [Op.eqFields, if_pos hname, Sem.run_bind, p1, p2, Result.andThen_ok, p3]
       by_cases e : a = b
       · subst e
         simp [ih' r0 hr0]
       · simp [e]
     · cases h
   · cases h
include hT I
theorem p_nilEq {op : BinOp} {t t' : Nat} {x y : Operand} {o : Oper} (ho : o.op = .binOp op t x y t') {ti : TI} {b1 b2 : Bool} {v1 v2 : Value} (h1 : C.T t = some ti) (h2 : s.ev x = some (.pv b1 (.sc v1))) (h3 : s.ev y = some (.pv b2 (.sc v2))) {r : TV} (h : nilEq ti.kind op y v1 v2 = some r) : POk C w0 S s a w m o r := by
 unfold nilEq at h
 split at h
 · rename_i op' hk
   obtain ⟨e1, _⟩ := (I.ev h2).scv
   obtain ⟨d, hd1, hd2⟩ := (hT _ _ h1).desc
   rw [hk] at hd2
   have hd : ∃ ms, d = .interface ms := by cases d <;> simp [dOk] at hd2; exact ⟨_, rfl⟩
   obtain ⟨ms, rfl⟩ := hd
   split at h
   · rename_i hop
     cases h
     subst hop
     refine ⟨.bool true, ?_, repSc rfl⟩
     simp only [execOp, ho, e1]
     refine vrun ?_
     simp [Act.eval, eqGuard, binOp, Op.equal, Op.maxDepth, run_equalIn_nil w 9999 t hd1]
   · split at h
     · rename_i hop
       cases h
       subst hop
       refine ⟨.bool false, ?_, repSc rfl⟩
       simp only [execOp, ho, e1]
       refine vrun ?_
       simp [Act.eval, eqGuard, binOp, Op.equal, Op.maxDepth, run_equalIn_nil w 9999 t hd1]
     · cases h
 · cases h
theorem p_erEq {op : BinOp} {t t' : Nat} {x y : Operand} {o : Oper} (ho : o.op = .binOp op t x y t') {sz by_ : Nat} {zero : TV} {b2 : Bool} (h1 : C.T t = some { size := sz, bytes := by_, kind := .ifc, zero := zero }) (h2 : s.ev x = some .er) (h3 : s.ev y = some (.pv b2 (.sc .nilIface))) {r : TV} (h : erEq op = some r) : POk C w0 S s a w m o r := by
 unfold erEq at h
 obtain ⟨e2, _⟩ := (I.ev h3).scv
 obtain ⟨d, hd1, hd2⟩ := (hT _ _ h1).desc
 have hd : ∃ ms, d = .interface ms := by cases d <;> simp [dOk] at hd2; exact ⟨_, rfl⟩
 obtain ⟨ms, rfl⟩ := hd
 have hv := I.ev h2
 generalize hax : a.eval x = ax at hv
 cases hv with
 | er =>
  split at h
  · rename_i hop
    cases h
    subst hop
    refine ⟨.bool false, ?_, repSc rfl⟩
    simp only [execOp, ho, e2, hax]
    refine vrun ?_
    simp [eqGuard, binOp, Op.equal, Op.maxDepth, run_equalIn_ifc w 9999 t hd1]
  · split at h
    · rename_i hop
      cases h
      subst hop
      refine ⟨.bool true, ?_, repSc rfl⟩
      simp only [execOp, ho, e2, hax]
      refine vrun ?_
      simp [eqGuard, binOp, Op.equal, Op.maxDepth, run_equalIn_ifc w 9999 t hd1]
    · cases h
theorem p_binOp {op : BinOp} {t t' : Nat} {x y : Operand} {o : Oper} (ho : o.op = .binOp op t x y t') {r : TV} (h : pureOp C s (.binOp op t x y t') = some r) : POk C w0 S s a w m o r := by
 simp only [pureOp] at h
 split at h
 · rename_i ti b1 v1 b2 v2 h1 h2 h3
   split at h
   · rename_i v hv
     split at h
     · rename_i hpl
       cases h
       obtain ⟨e1, _⟩ := (I.ev h2).scv
       obtain ⟨e2, _⟩ := (I.ev h3).scv
       refine ⟨v, ?_, repSc hpl⟩
       simp only [execOp, ho, e1, e2]
       exact vrun (binSc_ok (hT t ti h1) hv x y w)
     · cases h
   · exact p_nilEq hT I ho h1 h2 h3 h
 · rename_i size bytes zero b h1 h2 h3
   exact p_erEq hT I ho h1 h2 h3 h
 · rename_i size bytes fs zero cs ds h1 h2 h3
   split at h
   · rename_i hc
     obtain ⟨c1, c2⟩ := hc
     subst c1
     split at h
     · rename_i r0 hr
       cases h
       simp only [eqTy, Bool.and_eq_true, Bool.not_eq_true'] at c2
       obtain ⟨⟨c2, c3⟩, c4⟩ := c2
       have hti := hT _ _ h1
       obtain ⟨fields, k1, k2, k3⟩ := hti.strct w rfl
       obtain ⟨dd, hd1, hd2⟩ := hti.desc
       have hdd : dd = .struct fields := by
        rw [run_underlying hd1] at k1
        injection k1
       subst hdd
       have hfo : C.P.fieldsOf t = fields := by simp [Program.fieldsOf, hd1]
       have hr2 := I.ev h2
       have hr3 := I.ev h3
       generalize ex : a.eval x = vx at hr2
       generalize ey : a.eval y = vy at hr3
       cases hr2 with
       | @ag xs _ hi hs hr2 =>
        cases hr3 with
        | @ag ys _ hi' hs' hr3 =>
         refine ⟨.bool r0, ?_, repSc rfl⟩
         simp only [execOp, ho, ex, ey]
         refine vrun ?_
         have hf := eqFields_ok (d := 9998) (fields := fields.toList) hT (by simpa using k2) (fun j p hj => by
          obtain ⟨f, f1, f2, f3, _⟩ := k3 j p hj
          exact ⟨f, by simpa using f1, f2, f3⟩) (fun f hf => by rw [hfo] at c4; have := List.all_eq_true.1 c4 f hf; simpa using this) hs hs' hr2 hr3 hr w
         rw [← hfo] at hf
         simp only [Sem.run_bind, run_eqGuard_agg w .eql t x y xs ys c3, Result.andThen_ok, run_eql_struct, run_equalIn_struct w 9999 t xs ys (by rw [hfo]; exact hd1) c2, hf]
     · cases h
   · cases h
 · cases h
theorem p_unOp {op : UnOp} {t : Nat} {x : Operand} {o : Oper} (ho : o.op = .unOp op t x) {r : TV} (h : pureOp C s (.unOp op t x) = some r) : POk C w0 S s a w m o r := by
 have _ := hT
 simp only [pureOp] at h
 split at h
 · rename_i b1 v1 h2
   split at h
   · rename_i v hv
     split at h
     · rename_i hpl
       cases h
       obtain ⟨e1, _⟩ := (I.ev h2).scv
       refine ⟨v, ?_, repSc hpl⟩
       simp only [execOp, ho, e1]
       exact vrun (pureSem_run hv _ _)
     · cases h
   · cases h
 · cases h
theorem p_extract {x : Operand} {i : Nat} {o : Oper} (ho : o.op = .extract x i) {r : TV} (h : pureOp C s (.extract x i) = some r) : POk C w0 S s a w m o r := by
 have _ := hT
 simp only [pureOp] at h
 split at h
 · rename_i ts h1
   have hr := I.ev h1
   cases hx : a.eval x with
   | tuple arr =>
    rw [hx] at hr
    cases hr with
    | tu hs hr =>
     have hlt : i < arr.size := by rw [hs]; exact (List.getElem?_eq_some_iff.1 h).1
     refine ⟨arr.getD i undef, ?_, hr i r h⟩
     simp only [execOp, ho, hx]
     refine vrun ?_
     simp only [Instr.extract, getD_arr hlt, Sem.run_pure]
   | _ => rw [hx] at hr; cases hr
 · cases h
theorem p_field {t i : Nat} {x : Operand} {o : Oper} (ho : o.op = .field t x i) {r : TV} (h : pureOp C s (.field t x i) = some r) : POk C w0 S s a w m o r := by
 simp only [pureOp] at h
 split at h
 · rename_i size bytes fs zero cs h1 h2
   have hr := I.ev h2
   have hti := hT _ _ h1
   obtain ⟨fields, k1, k2, k3⟩ := hti.strct w rfl
   split at h
   · rename_i off ft hf
     obtain ⟨f, f1, f2, f3, tii, f4, f5⟩ := k3 i _ hf
     split at h
     · rename_i fi hfi
       have hfo := hT _ _ hfi
       dsimp only at f2 f3
       cases hx : a.eval x with
       | agg arr =>
        rw [hx] at hr
        cases hr with
        | ag hi hs hr =>
         split at h
         · rename_i hag
           split at h
           rotate_left
           · cases h
           rename_i hle
           cases h
           refine ⟨.agg (arr.extract off (off + fi.size)), ?_, ?_⟩
           · simp only [execOp, ho, hx]
             refine vrun ?_
             simp only [Instr.field, Sem.run_bind, k1, Result.andThen_ok, f1, asAgg, Sem.run_pure, part, f2, f3, hfo.agg w, hag, if_true, hfo.size w]
           · refine .ag (fun t ht => hi t (List.mem_of_mem_drop (List.mem_of_mem_take ht))) (by simp; omega) (fun j t hj => ?_)
             rw [List.getElem?_take] at hj
             split at hj
             · rename_i hjl
               rw [List.getElem?_drop] at hj
               have := hr _ _ hj
               have e : (arr.extract off (off + fi.size)).getD j undef = arr.getD (off + j) undef := by
                have : j < (arr.extract off (off + fi.size)).size := by simp; omega
                simp only [Array.getD_eq_getD_getElem?, Array.getElem?_eq_getElem this, Array.getElem?_eq_getElem (show off + j < arr.size by omega), Array.getElem_extract, Option.getD_some]
               rw [e]; exact this
             · cases hj
         · rename_i hag
           have hlt : off < arr.size := by rw [hs]; exact (List.getElem?_eq_some_iff.1 h).1
           refine ⟨arr.getD off undef, ?_, hr off r h⟩
           simp only [execOp, ho, hx]
           refine vrun ?_
           simp only [Instr.field, Sem.run_bind, k1, Result.andThen_ok, f1, asAgg, Sem.run_pure, part, f2, f3, hfo.agg w, hag, if_false, getD_arr hlt, Bool.false_eq_true]
       | _ => rw [hx] at hr; cases hr
     · cases h
   · cases h
 · cases h
theorem p_fieldAddr {t i : Nat} {x : Operand} {o : Oper} (ho : o.op = .fieldAddr t x i) {r : TV} (h : pureOp C s (.fieldAddr t x i) = some r) : POk C w0 S s a w m o r := by
 simp only [pureOp] at h
 split at h
 · rename_i size bytes fs zero av h1 h2
   have hr := I.ev h2
   have hti := hT _ _ h1
   split at h
   · rename_i off ft hf
     split at h
     · rename_i o' j
       cases h
       cases hx : a.eval x with
       | pointer ad =>
        rw [hx] at hr
        cases hr with
        | bp hm =>
         refine ⟨_, ?_, .bp hm⟩
         simp only [execOp, ho, hx]
         exact vrun (fieldAddr_ok hti rfl hf _ rfl w)
       | _ => rw [hx] at hr; cases hr
     · rename_i o' i' j
       cases h
       cases hx : a.eval x with
       | pointer ad =>
        rw [hx] at hr
        cases hr with
        | @ep _ _ _ c k ad hm =>
         refine ⟨_, ?_, .ep (j := j + off) hm⟩
         simp only [execOp, ho, hx]
         have := vrun (fieldAddr_ok hti rfl hf ⟨ad.block, ad.off + (i' * k + j), none⟩ rfl w)
         rw [show ad.off + (i' * k + (j + off)) = ad.off + (i' * k + j) + off by omega]
         exact this
       | _ => rw [hx] at hr; cases hr
     · rename_i cells
       cases h
       cases hx : a.eval x with
       | pointer ad =>
        rw [hx] at hr
        cases hr with
        | @rp ad _ u hs hR hc hrep =>
         refine ⟨_, ?_, .rp (ad := ⟨ad.block, ad.off + off, none⟩) (fun j => u (off + j)) rfl hR (fun j p hj => ?_) (fun j p hj => ?_)⟩
         · simp only [execOp, ho, hx]
           exact vrun (fieldAddr_ok hti rfl hf ad hs w)
         · rw [List.getElem?_drop] at hj
           have := hc _ _ hj
           dsimp only
           rw [Nat.add_assoc]; exact this
         · rw [List.getElem?_drop] at hj
           exact hrep _ _ hj
       | _ => rw [hx] at hr; cases hr
     · rename_i b cells
       cases h
       cases hx : a.eval x with
       | pointer ad =>
        rw [hx] at hr
        cases hr with
        | pv hrep =>
         cases ad with
         | none => cases hrep
         | some ad =>
          have hs : ad.spot = none := by cases hrep with | pt u hs => exact hs
          refine ⟨_, ?_, .pv (drop_rep (off := off) hs hrep)⟩
          simp only [execOp, ho, hx]
          exact vrun (fieldAddr_ok hti rfl hf ad hs w)
       | _ =>
        rw [hx] at hr
        cases hr with
        | pv hrep => cases hrep
     · rename_i o' π i' j
       cases h
       cases hx : a.eval x with
       | pointer ad =>
        rw [hx] at hr
        cases hr with
        | @np _ _ _ c k _ ad g hm hg =>
         refine ⟨_, ?_, .np (j := j + off) hm hg⟩
         simp only [execOp, ho, hx]
         have := vrun (fieldAddr_ok hti rfl hf ⟨ad.block, ad.off + (i' * k + j), none⟩ rfl w)
         rw [show ad.off + (i' * k + (j + off)) = ad.off + (i' * k + j) + off by omega]
         exact this
       | _ => rw [hx] at hr; cases hr
     · rename_i so cells
       cases h
       generalize hx : a.eval x = vx at hr
       cases hr with
       | @dp _ ad _ w1 B u hS hs hB hc hrep =>
        refine ⟨_, ?_, .dp (ad := ⟨ad.block, ad.off + off, none⟩) (fun j => u (off + j)) hS rfl hB (fun j p hj => ?_) (fun j p hj => ?_)⟩
        · simp only [execOp, ho, hx]
          exact vrun (fieldAddr_ok hti rfl hf ad hs w)
        · rw [List.getElem?_drop] at hj
          have := hc _ _ hj
          dsimp only
          rw [Nat.add_assoc]; exact this
        · rw [List.getElem?_drop] at hj
          exact hrep _ _ hj
     · cases h
   · cases h
 · cases h
end
end Go.Pm
namespace Go.Pm
open Go
theorem bytesOf_get : ∀ {rows : List (List PV)} {ns : List Int}, bytesOf rows = some ns → ns.length = rows.length ∧ ∀ (i : Nat) (n : Int), ns[i]? = some n → rows[i]? = some [.sc (.int .u8 n)]
 | [], ns, h => by cases h; exact ⟨rfl, fun i n hi => by simp at hi⟩
 | r :: rows, ns, h => by
  unfold bytesOf at h
  split at h
  · rename_i h0; cases h0
  · rename_i n l h0
    cases h0
    split at h
    · rename_i ns' h1
      cases h
      obtain ⟨a, b⟩ := bytesOf_get h1
      refine ⟨by simp [a], fun i n hi => ?_⟩
      cases i with
      | zero => simp at hi ⊢; exact hi
      | succ i => simp at hi ⊢; exact b i n hi
    · cases h
  · cases h
theorem rep_str [Dd] {P : Program} {w : World} {R U : Nat → Prop} {v : Value} {rows : List (List PV)} {ns : List Int} {src dst e : Nat} (hr : Rep w R U v (.sl rows)) (hb : bytesOf rows = some ns)
    (hs : P.underlying src = some (.slice e)) (he : P.underlying e = some (.int .u8)) (hd : P.underlying dst = some .string) : (convert src dst v).run P w = .ok (.string (strOfNums ns)) w := by
 obtain ⟨h1, h2⟩ := bytesOf_get hb
 cases hr with
 | @nil _ _ A c =>
  cases hb
  cases A with
  | none => exact run_convert_bytes_nil w src e hs he 0 c dst hd
  | some a =>
   rw [run_convert_bytes_string w src dst e _ 0 c hs he hd, run_bytesToString w a 0 c [] (by
    have := run_loadCells_list (P := P) w a [] (by simp)
    simpa using this)]
   rfl
 | @sl _ _ ad c k _ u hsp hR hl hk hc hrep =>
  obtain ⟨bl, off, sp⟩ := ad
  simp only at hsp
  subst hsp
  refine run_convert_bytes_arg w src e hs he bl off rows.length c ns h1 (fun i hi => ?_) dst hd
  have hi' : i < ns.length := by omega
  have hrow := h2 i ns[i] (List.getElem?_eq_getElem hi')
  have hk1 := hk i _ hrow
  have hk2 : k = 1 := by simpa using hk1.symm
  subst hk2
  have h3 := hc i _ 0 (.sc (.int .u8 ns[i])) hrow rfl
  have h4 := hrep i _ 0 (.sc (.int .u8 ns[i])) hrow rfl
  rw [show off + i = off + (i * 1 + 0) by omega, h3]
  generalize u i 0 = y at h4
  cases h4
  simp [List.getD, List.getElem?_eq_getElem hi']
section
variable [Dd] {C : Cfg} (hT : TabOk C) {w0 : World} {own0 S : Nat → Prop} {n : Nat} {s : St} {a : Act} {w : World} {m : Mp} (I : Inv w0 own0 S n s a w m)
include hT I
theorem index_run {t : Nat} {ti : TI} {e : Nat} {ei : TI} (ht : TyOk C.P t ti) (hk : ti.kind = .slice e) (he : TyOk C.P e ei) {ad : Addr} {len cap : Nat} {ik : IntKind} {i : Int} (h0 : 0 ≤ i) (h1 : i < len) :
    (Instr.indexAt t (.slice (some ad) len cap) (.int ik i)).run C.P w = .ok (.pointer (some (ad.add (i.toNat * ei.size)))) w := by
 have _ := hT
 have _ := I
 obtain ⟨d, hd1, hd2⟩ := ht.desc
 have hd : d = .slice e := by rw [hk] at hd2; cases d <;> simp [dOk] at hd2; rw [hd2]
 subst hd
 simp [Instr.indexAt, asIntOf, run_underlying hd1, he.size w, h0, h1]
theorem index_run_arr {t : Nat} {ti : TI} {l e : Nat} {ei : TI} (ht : TyOk C.P t ti) (hk : ti.kind = .arr l e) (he : TyOk C.P e ei) {ad : Addr} {ik : IntKind} {i : Int} (h0 : 0 ≤ i) (h1 : i < l) :
    (Instr.indexAt t (.pointer (some ad)) (.int ik i)).run C.P w = .ok (.pointer (some (ad.add (i.toNat * ei.size)))) w := by
 have _ := hT
 have _ := I
 obtain ⟨d, hd1, hd2⟩ := ht.desc
 have hd : d = .array l e := by rw [hk] at hd2; cases d <;> simp [dOk] at hd2; rw [hd2.1, hd2.2]
 subst hd
 simp [Instr.indexAt, asIntOf, Instr.sureAddr, run_underlying hd1, he.size w, h0, h1]
theorem p_indexAddr {t : Nat} {x i : Operand} {o : Oper} (ho : o.op = .indexAddr t x i) {r : TV} (h : pureOp C s (.indexAddr t x i) = some r) : POk C w0 S s a w m o r := by
 simp only [pureOp] at h
 split at h
 · rename_i size bytes e zero av b ik q h1 h2 h3
   have hr := I.ev h2
   obtain ⟨hi, _⟩ := (I.ev h3).scv
   have hti := hT _ _ h1
   split at h
   · rename_i ei o' off len he
     have hei := hT _ _ he
     split at h
     · rename_i st e' k rows hl
       split at h
       · rename_i hc
         obtain ⟨c1, c2, c3⟩ := hc
         cases h
         cases hx : a.eval x with
         | slice A' l c =>
          rw [hx] at hr
          have hob := I.mem.obs o' _ hl
          cases hr with
          | @ref _ _ _ c k' A _ hm hoc hA =>
           rw [hm] at hob
           cases hob with
           | row k1 k2 k3 k4 k5 =>
            cases A with
            | none => have := k3 rfl; omega
            | some ad =>
             obtain ⟨hs, _⟩ := k5 ad rfl
             obtain ⟨bl, of_, sp⟩ := ad
             simp only at hs
             subst hs
             have hA1 : A' = some ⟨bl, of_ + off * k, none⟩ := by
              rcases hA with h | h
              · simpa [Addr.add_lit] using h
              · omega
             subst hA1
             refine ⟨_, ?_, .ep (i := off + q.toNat) (j := 0) hm⟩
             simp only [execOp, ho, hx, hi]
             have := index_run (w := w) hT I hti rfl hei (ad := ⟨bl, of_ + off * k, none⟩) (cap := c - off) (ik := ik) c1 c2
             rw [Addr.add_lit, ← c3] at this
             have e2 : of_ + ((off + q.toNat) * k + 0) = of_ + off * k + q.toNat * k := by rw [Nat.add_mul]; omega
             first | rw [e2] | (dsimp only; rw [e2])
             exact vrun this
         | _ => rw [hx] at hr; cases hr
       · cases h
     · cases h
   · rename_i ei b' rows he
     have hei := hT _ _ he
     split at h
     · rename_i c1
       split at h
       · rename_i r' hr'
         split at h
         · rename_i hlen
           cases h
           · have hrep := hr.pvv
             cases hx : a.eval x with
             | slice A' l c =>
              rw [hx] at hrep
              cases hrep with
              | nil => simp at hr'
              | @sl _ _ ad _ k _ u hs hR hl hk hc hrr =>
               obtain ⟨bl, of_, sp⟩ := ad
               simp only at hs
               subst hs
               have hk' := hk _ _ hr'
               have hlt : q < rows.length := by have := (List.getElem?_eq_some_iff.1 hr').1; omega
               have hRR : RR s.hp w m bl := by cases b' <;> first | exact hR | exact hR.1
               refine ⟨_, ?_, .rp (ad := ⟨bl, of_ + q.toNat * k, none⟩) (fun j => u q.toNat j) rfl hRR (fun j p hj => ?_) (fun j p hj => hrr _ _ _ _ hr' hj)⟩
               · simp only [execOp, ho, hx, hi]
                 have := index_run (w := w) hT I hti rfl hei (ad := ⟨bl, of_, none⟩) (cap := c) (ik := ik) c1 hlt
                 rw [Addr.add_lit, ← hlen, hk'] at this
                 exact vrun this
               · have := hc _ _ _ _ hr' hj
                 dsimp only at this ⊢
                 rw [Nat.add_assoc]; exact this
             | _ => rw [hx] at hrep; cases hrep
         · cases h
       · cases h
     · cases h
   · rename_i ei o' π off len he
     have hei := hT _ _ he
     split at h
     · rename_i st rows hl
       split at h
       · rename_i rs htat
         split at h
         · rename_i c12
           obtain ⟨c1, c2⟩ := c12
           split at h
           · rename_i r' hr'
             split at h
             · rename_i hlen
               cases h
               cases hx : a.eval x with
               | slice A' l c =>
                rw [hx] at hr
                have hob := I.mem.obs o' _ hl
                cases hr with
                | @nr _ _ _ c k' _ A _ g hm hg hoc hA =>
                 rw [hm] at hob
                 cases hob with
                 | tree k1 k2 k3 k4 =>
                  obtain ⟨A0, c0, k0, hg', hp'⟩ := k2 π rs htat
                  rw [hg] at hg'
                  cases hg'
                  cases A with
                  | none => have := hp'.nil rfl; omega
                  | some ad =>
                   obtain ⟨hs, _⟩ := hp'.mem ad rfl
                   obtain ⟨bl, of_, sp⟩ := ad
                   simp only at hs
                   subst hs
                   have hA1 : A' = some ⟨bl, of_ + off * k', none⟩ := by
                    rcases hA with h | h
                    · simpa [Addr.add_lit] using h
                    · omega
                   subst hA1
                   have c3 : k' = ei.size := by rw [← hlen]; exact (hp'.len _ (List.mem_of_getElem? hr')).symm
                   refine ⟨_, ?_, .np (i := off + q.toNat) (j := 0) hm hg⟩
                   simp only [execOp, ho, hx, hi]
                   have := index_run (w := w) hT I hti rfl hei (ad := ⟨bl, of_ + off * k', none⟩) (cap := c - off) (ik := ik) c1 c2
                   rw [Addr.add_lit, ← c3] at this
                   have e2 : of_ + ((off + q.toNat) * k' + 0) = of_ + off * k' + q.toNat * k' := by rw [Nat.add_mul]; omega
                   first | rw [e2] | (dsimp only; rw [e2])
                   exact vrun this
               | _ => rw [hx] at hr; cases hr
             · cases h
           · cases h
         · cases h
       · cases h
     · cases h
   · rename_i ei so rows he
     have hei := hT _ _ he
     split at h
     · rename_i c1
       split at h
       · rename_i r' hr'
         split at h
         · rename_i hlen
           cases h
           generalize hx : a.eval x = vx at hr
           cases hr with
           | @dv _ _ _ w1 B hS hrep =>
            generalize hrl : PV.sl rows = pr at hrep
            cases hrep with
            | nil => cases hrl; simp at hr'
            | @sl _ _ ad c k rows' u hs hR hl hk hc hrr =>
             cases hrl
             obtain ⟨bl, of_, sp⟩ := ad
             simp only at hs
             subst hs
             have hk' := hk _ _ hr'
             have hlt : q < rows.length := by have := (List.getElem?_eq_some_iff.1 hr').1; omega
             refine ⟨_, ?_, .dp (ad := ⟨bl, of_ + q.toNat * k, none⟩) (fun j => u q.toNat j) hS rfl hR (fun j p hj => ?_) (fun j p hj => hrr _ _ _ _ hr' hj)⟩
             · simp only [execOp, ho, hx, hi]
               have := index_run (w := w) hT I hti rfl hei (ad := ⟨bl, of_, none⟩) (cap := c) (ik := ik) c1 hlt
               rw [Addr.add_lit, ← hlen, hk'] at this
               exact vrun this
             · have := hc _ _ _ _ hr' hj
               dsimp only at this ⊢
               rw [Nat.add_assoc]; exact this
            | _ => cases hrl
         · cases h
       · cases h
     · cases h
   · cases h
 · rename_i size bytes l e zero av b ik q h1 h2 h3
   have hr := I.ev h2
   obtain ⟨hi, _⟩ := (I.ev h3).scv
   have hti := hT _ _ h1
   split at h
   · rename_i ei o' off he
     have hei := hT _ _ he
     split at h
     · rename_i hc
       cases h
       cases hx : a.eval x with
       | pointer ad =>
        rw [hx] at hr
        cases hr with
        | @bp _ _ bq hm =>
         refine ⟨_, ?_, .bp hm⟩
         simp only [execOp, ho, hx, hi]
         have := index_run_arr (w := w) hT I hti rfl hei (ad := ⟨bq, off, none⟩) (ik := ik) hc.1 hc.2
         rw [Addr.add_lit] at this
         exact vrun this
       | _ => rw [hx] at hr; cases hr
     · cases h
   · rename_i ei b' cells he
     have hei := hT _ _ he
     split at h
     · rename_i hc
       cases h
       cases hx : a.eval x with
       | pointer ad =>
        rw [hx] at hr
        cases hr with
        | pv hrep =>
         cases ad with
         | none => cases hrep
         | some ad =>
          have hs : ad.spot = none := by cases hrep with | pt u hs => exact hs
          obtain ⟨bl, of_, sp⟩ := ad
          simp only at hs
          subst hs
          refine ⟨_, ?_, .pv (drop_rep (off := q.toNat * ei.size) rfl hrep)⟩
          simp only [execOp, ho, hx, hi]
          have := index_run_arr (w := w) hT I hti rfl hei (ad := ⟨bl, of_, none⟩) (ik := ik) hc.1 hc.2
          rw [Addr.add_lit] at this
          exact vrun this
       | _ =>
        rw [hx] at hr
        cases hr with
        | pv hrep => cases hrep
     · cases h
   · cases h
 · cases h
theorem p_index {t : Nat} {x i : Operand} {o : Oper} (ho : o.op = .index t x i) {r : TV} (h : pureOp C s (.index t x i) = some r) : POk C w0 S s a w m o r := by
 simp only [pureOp] at h
 split at h
 · rename_i size bytes l e zero ps b ik q h1 h2 h3
   have hr := I.ev h2
   obtain ⟨hi, _⟩ := (I.ev h3).scv
   have hti := hT _ _ h1
   split at h
   · rename_i kk bb zz he
     have hei := hT _ _ he
     split at h
     · rename_i hc
       obtain ⟨c0, c1, c2⟩ := hc
       split at h
       · rename_i p hp
         cases h
         cases hx : a.eval x with
         | agg arr =>
          rw [hx] at hr
          cases hr with
          | ar hs hrep =>
           have hlt : q.toNat < arr.size := by rw [hs]; exact (List.getElem?_eq_some_iff.1 hp).1
           refine ⟨arr.getD q.toNat undef, ?_, .pv (hrep _ _ hp)⟩
           simp only [execOp, ho, hx, hi]
           refine vrun ?_
           obtain ⟨d, hd1, hd2⟩ := hti.desc
           have hd : d = .array l e := by cases d <;> simp [dOk] at hd2; rw [hd2.1, hd2.2]
           subst hd
           have ha := hei.agg w
           have hsz := hei.size w
           dsimp only at ha hsz
           rw [c0] at ha
           simp only [Instr.index, Sem.run_bind, asIntOf, Sem.run_pure, Result.andThen_ok, run_underlying hd1, c1, c2, and_self, if_true, hsz, part, ha, Nat.mul_one, getD_arr hlt, Bool.false_eq_true, if_false]
         | _ => rw [hx] at hr; cases hr
       · cases h
     · cases h
   · cases h
 · rename_i size bytes zero b str b2 ik q h1 h2 h3
   obtain ⟨e1, _⟩ := (I.ev h2).scv
   obtain ⟨hi, _⟩ := (I.ev h3).scv
   have hti := hT _ _ h1
   split at h
   · rename_i c1
     split at h
     · rename_i c hc
       cases h
       refine ⟨_, ?_, repSc rfl⟩
       simp only [execOp, ho, e1, hi]
       refine vrun ?_
       obtain ⟨d, hd1, hd2⟩ := hti.desc
       have hd : d = .string := by cases d <;> simp [dOk] at hd2; rfl
       subst hd
       simp only [Instr.index, Sem.run_bind, asIntOf, Sem.run_pure, Result.andThen_ok, run_underlying hd1, c1, if_true, hc]
     · cases h
   · cases h
 · cases h
theorem p_nilCheck {x : Operand} {o : Oper} (ho : o.op = .nilCheck x) {r : TV} (h : pureOp C s (.nilCheck x) = some r) : POk C w0 S s a w m o r := by
 have _ := hT
 simp only [pureOp] at h
 have fin : ∀ {t : TV}, s.ev x = some t → (∀ v, RepT w m (RR s.hp w m) (UU w0 S s.hp w m) v t → (∃ ad, v = .pointer (some ad)) ∨ (∃ f fst arr, v = .func (.func f) fst arr)) → POk C w0 S s a w m o t := by
  intro t ht hv
  have hr := I.ev ht
  refine ⟨a.eval x, ?_, hr⟩
  rcases hv _ hr with ⟨ad, e⟩ | ⟨f, fst, arr, e⟩
  · simp [execOp, ho, e]
  · simp [execOp, ho, e]
 split at h
 · rename_i h1; cases h; exact fin h1 (fun v hv => by cases hv; exact .inl ⟨_, rfl⟩)
 · rename_i h1; cases h; exact fin h1 (fun v hv => by cases hv; exact .inl ⟨_, rfl⟩)
 · rename_i h1; cases h; exact fin h1 (fun v hv => by cases hv; exact .inl ⟨_, rfl⟩)
 · rename_i h1; cases h; exact fin h1 (fun v hv => by cases hv with | pv hrep => cases hrep; exact .inl ⟨_, rfl⟩)
 · rename_i h1; cases h; exact fin h1 (fun v hv => by cases hv; exact .inr ⟨_, _, _, rfl⟩)
 · rename_i h1; cases h; exact fin h1 (fun v hv => by cases hv; exact .inr ⟨_, _, _, rfl⟩)
 · rename_i h1; cases h; exact fin h1 (fun v hv => by cases hv with | pv hrep => cases hrep; exact .inr ⟨_, _, _, rfl⟩)
 · rename_i h1; cases h; exact fin h1 (fun v hv => by cases hv; exact .inl ⟨_, rfl⟩)
 · rename_i h1; cases h; exact fin h1 (fun v hv => by cases hv; exact .inl ⟨_, rfl⟩)
 · cases h
theorem p_convert {src dst : Nat} {x : Operand} {o : Oper} (ho : o.op = .convert src dst x) {r : TV} (h : pureOp C s (.convert src dst x) = some r) : POk C w0 S s a w m o r := by
 simp only [pureOp] at h
 split at h
 · rename_i si size bytes k zero b ik q h1 h2 h3
   cases h
   obtain ⟨e1, _⟩ := (I.ev h3).scv
   obtain ⟨d, hd1, hd2⟩ := (hT _ _ h2).desc
   have hd : d = .int k := by cases d <;> simp [dOk] at hd2; rw [hd2]
   subst hd
   obtain ⟨d', hd1', hd2'⟩ := (hT _ _ h1).desc
   refine ⟨.int k (k.wrap q), ?_, repSc rfl⟩
   simp only [execOp, ho, e1]
   refine vrun ?_
   simp only [convert, Sem.run_bind, run_underlying hd1, run_underlying hd1', Result.andThen_ok, Conv.intToInt, Sem.run_pure]
 · rename_i si size bytes zero b str h1 h2 h3
   cases h
   obtain ⟨e1, _⟩ := (I.ev h3).scv
   obtain ⟨d, hd1, hd2⟩ := (hT _ _ h2).desc
   have hd : d = .string := by cases d <;> simp [dOk] at hd2; rfl
   subst hd
   obtain ⟨d', hd1', hd2'⟩ := (hT _ _ h1).desc
   refine ⟨.string str, ?_, repSc rfl⟩
   simp only [execOp, ho, e1]
   refine vrun ?_
   cases d' <;> simp [convert, run_underlying hd1, run_underlying hd1']
 · rename_i si sb e sz di db dz v _ h1 h2 h3
   split at h
   · rename_i eb ez rows he hr
     split at h
     · rename_i ns hb
       cases h
       obtain ⟨d, hd1, hd2⟩ := (hT _ _ h2).desc
       have hd : d = .string := by cases d <;> first | rfl | (simp [dOk] at hd2)
       subst hd
       obtain ⟨d', hd1', hd2'⟩ := (hT _ _ h1).desc
       have hd' : d' = .slice e := by cases d' <;> simp [dOk] at hd2'; rw [hd2']
       subst hd'
       obtain ⟨d3, hd3, hd4⟩ := (hT _ _ he).desc
       have hd5 : d3 = .int .u8 := by cases d3 <;> simp [dOk] at hd4; rw [hd4]
       subst hd5
       have fin : ∀ {R : Nat → Prop}, Rep w R (UU w0 S s.hp w m) (a.eval x) (.sl rows) → POk C w0 S s a w m o (.pv false (.sc (.string (strOfNums ns)))) := fun hrep => by
        refine ⟨.string (strOfNums ns), ?_, repSc rfl⟩
        simp only [execOp, ho]
        exact vrun (rep_str hrep hb hd1' hd3 hd1)
       have hv := I.ev h3
       unfold rowsOf at hr
       split at hr
       · cases hr
         generalize hax : a.eval x = ax at *
         cases hv
         exact fin (R := fun _ => True) .nil
       · cases hr; exact fin hv.pvv
       · rename_i o' off len
         split at hr
         · rename_i st e' k' rows' hl
           obtain ⟨g1, g2, g3⟩ := sub_some hr
           subst g2
           exact fin (row_rep I.mem hl hv (fun _ => True) (fun _ _ _ _ => trivial) g1)
         · cases hr
       · cases hr
     · cases h
   · cases h
 · cases h
theorem p_makeFunc {fn : Fn} {first caps : Array Operand} {o : Oper} (ho : o.op = .makeFunc fn first caps) {r : TV} (h : pureOp C s (.makeFunc fn first caps) = some r) : POk C w0 S s a w m o r := by
 have _ := hT
 cases fn <;> simp only [pureOp] at h <;> try cases h
 rename_i f
 split at h
 · rename_i h0
   subst h0
   split at h
   · rename_i l hl
     cases h
     obtain ⟨k1, k2⟩ := I.evs hl
     refine ⟨.func (.func f) #[] (caps.map a.eval), ?_, .fn (by simp [k1]) (fun j t hj => ?_)⟩
     · simp only [execOp, ho]
       refine vrun ?_
       simp [Instr.makeFunc]
     · have := k2 j t hj
       have e : (caps.map a.eval).getD j undef = (caps.toList.map a.eval).getD j undef := by
        rw [← getD_list]; simp
       rw [e]; exact this
   · cases h
 · split at h
   · rename_i h0
     subst h0
     split at h
     · rename_i l hl
       cases h
       obtain ⟨k1, k2⟩ := I.evs hl
       refine ⟨.func (.func f) (first.map a.eval) #[], ?_, .mv (by simp [k1]) (fun j t hj => ?_)⟩
       · simp only [execOp, ho]
         refine vrun ?_
         simp [Instr.makeFunc]
       · have := k2 j t hj
         have e : (first.map a.eval).getD j undef = (first.toList.map a.eval).getD j undef := by
          rw [← getD_list]; simp
         rw [e]; exact this
     · cases h
   · cases h
end
end Go.Pm
namespace Go.Pm
open Go
theorem bounds_run {isS : Bool} {len cap : Nat} {P : Program} {lo hi : Option Value} {l h : Int} (hl : (lo = none ∧ l = 0) ∨ ∃ k, lo = some (.int k l)) (hh : (hi = none ∧ h = len) ∨ ∃ k, hi = some (.int k h)) (h0 : 0 ≤ l) (h1 : l ≤ h) (h2 : h ≤ cap) (w : World) :
    (Instr.sliceBounds isS len cap lo hi none).run P w = .ok (l.toNat, h.toNat, cap) w := by
 have hb : ∀ (k : IntKind) (x : Int) (y : Nat) (c : BoundsCode), 0 ≤ x → x ≤ y → (Instr.sliceBound (.int k x) y c).run P w = .ok x.toNat w := by
  intro k x y c p q
  simp [Instr.sliceBound, asIntOf, p, q]
 have e2 : ((h.toNat : Nat) : Int) = h := Int.toNat_of_nonneg (by omega)
 rcases hh with ⟨rfl, rfl⟩ | ⟨kh, rfl⟩
 · rcases hl with ⟨rfl, rfl⟩ | ⟨kl, rfl⟩
   · simp [Instr.sliceBounds]
   · cases isS <;> simp [Instr.sliceBounds, hb kl l len _ h0 h1]
 · rcases hl with ⟨rfl, rfl⟩ | ⟨kl, rfl⟩
   · cases isS <;> simp [Instr.sliceBounds, hb kh h cap _ (by omega) h2]
   · cases isS <;> simp [Instr.sliceBounds, hb kh h cap _ (by omega) h2, hb kl l h.toNat _ h0 (by omega)]
section
variable [Dd] {C : Cfg} (hT : TabOk C) {w0 : World} {own0 S : Nat → Prop} {n : Nat} {s : St} {a : Act} {w : World} {m : Mp} (I : Inv w0 own0 S n s a w m)
omit hT I in
include I in
theorem bound_ok {x : Option Operand} {d : Nat} {z : Int} (h : pureOp.bound s x d = some z) : ((x.map a.eval) = none ∧ z = d) ∨ ∃ k, x.map a.eval = some (.int k z) := by
 cases x with
 | none => cases h; exact .inl ⟨rfl, rfl⟩
 | some x =>
  simp only [pureOp.bound] at h
  split at h
  · rename_i h1
    cases h
    obtain ⟨e, _⟩ := (I.ev h1).scv
    exact .inr ⟨_, congrArg some e⟩
  · cases h
include hT I
theorem p_slice3 {t : Nat} {x lo hi mx : Operand} {o : Oper} (ho : o.op = .slice t x (some lo) (some hi) (some mx)) {r : TV} (h : pureOp C s (.slice t x (some lo) (some hi) (some mx)) = some r) : POk C w0 S s a w m o r := by
 simp only [pureOp] at h
 split at h
 · rename_i size bytes e zero o1 o2 len b1 k1 l b2 k2 hh b3 k3 mm h1 h2 h3 h4 h5
   split at h
   · rename_i ei he
     split at h
     · rename_i hc
       obtain ⟨c1, c2, c3, c4⟩ := hc
       cases h
       have hr := I.ev h2
       have hti := hT _ _ h1
       obtain ⟨d, hd1, hd2⟩ := hti.desc
       have hd : d = .slice e := by cases d <;> simp [dOk] at hd2; rw [hd2]
       subst hd
       obtain ⟨e3, _⟩ := (I.ev h3).scv
       obtain ⟨e4, _⟩ := (I.ev h4).scv
       obtain ⟨e5, _⟩ := (I.ev h5).scv
       cases hx : a.eval x with
       | slice A l2 c =>
        rw [hx] at hr
        have hlc : l2 = len ∧ len ≤ c := by cases hr with | ref hm hoc hA => exact ⟨rfl, by omega⟩
        obtain ⟨rfl, hlc⟩ := hlc
        have hb : ∀ (k : IntKind) (x : Int) (y : Nat) (c : BoundsCode), 0 ≤ x → x ≤ y → (Instr.sliceBound (.int k x) y c).run C.P w = .ok x.toNat w := by
         intro k x y c p q
         simp [Instr.sliceBound, asIntOf, p, q]
        have q1 : ((mm.toNat : Nat) : Int) = mm := Int.toNat_of_nonneg (by omega)
        have q2 : ((hh.toNat : Nat) : Int) = hh := Int.toNat_of_nonneg (by omega)
        have hrun : (Instr.sliceBounds true l2 c (some (.int k1 l)) (some (.int k2 hh)) (some (.int k3 mm))).run C.P w = .ok (l.toNat, hh.toNat, mm.toNat) w := by
         simp [Instr.sliceBounds, hb k3 mm c _ (by omega) (by omega), hb k2 hh mm.toNat _ (by omega) (by omega), hb k1 l hh.toNat _ c1 (by omega)]
        refine ⟨.slice (if mm.toNat = l.toNat then A else A.map (·.add (l.toNat * ei.size))) (hh.toNat - l.toNat) (mm.toNat - l.toNat), ?_, .ud rfl⟩
        simp only [execOp, ho, hx, Option.map_some, e3, e4, e5]
        refine vrun ?_
        simp only [Instr.sliceAt, Instr.slice, Sem.run_bind, run_underlying hd1, Result.andThen_ok, hrun, (hT _ _ he).size w, Sem.run_pure]
       | _ => rw [hx] at hr; cases hr
     · cases h
   · cases h
 · cases h
theorem p_slice {t : Nat} {x : Operand} {lo hi : Option Operand} {o : Oper} (ho : o.op = .slice t x lo hi none) {r : TV} (h : pureOp C s (.slice t x lo hi none) = some r) : POk C w0 S s a w m o r := by
 simp only [pureOp] at h
 split at h
 · rename_i size bytes e zero o' off len l h1 h2 h3
   have hr := I.ev h2
   have hti := hT _ _ h1
   obtain ⟨d, hd1, hd2⟩ := hti.desc
   have hd : d = .slice e := by cases d <;> simp [dOk] at hd2; rw [hd2]
   subst hd
   split at h
   · rename_i st e' k rows ei hh hl he hb
     have hcc : (0 ≤ l ∧ l ≤ hh ∧ (hh ≤ len ∨ off + hh.toNat ≤ rows.length) ∧ k = ei.size) ∧ r = .ref o' (off + l.toNat) (hh.toNat - l.toNat) := by
      split at h
      · rename_i hc
        cases h
        exact ⟨⟨hc.1, hc.2.1, .inl hc.2.2.1, hc.2.2.2⟩, rfl⟩
      · split at h
        · rename_i hc
          cases h
          exact ⟨⟨hc.1, hc.2.1, .inr hc.2.2.1, hc.2.2.2⟩, rfl⟩
        · cases h
     clear h
     obtain ⟨⟨c1, c2, c3, c4⟩, rfl⟩ := hcc
     · have hei := hT _ _ he
       have hlo := bound_ok I h3
       have hhi := bound_ok I hb
       cases hx : a.eval x with
       | slice A' l' c =>
        rw [hx] at hr
        have hob := I.mem.obs o' _ hl
        cases hr with
        | @ref _ _ _ c k' A _ hm hoc hA =>
         rw [hm] at hob
         cases hob with
         | row k1 k2 k3 k4 k5 =>
          have hrun := bounds_run (P := C.P) (isS := true) (len := len) (cap := c - off) (by rcases hlo with ⟨p, q⟩ | p; exact .inl ⟨p, by simpa using q⟩; exact .inr p) hhi c1 c2 (by omega) w
          refine ⟨.slice (if c - off = l.toNat then A' else A'.map (·.add (l.toNat * ei.size))) (hh.toNat - l.toNat) (c - off - l.toNat), ?_, ?_⟩
          · simp only [execOp, ho, hx, Option.map_none]
            refine vrun ?_
            simp only [Instr.sliceAt, Instr.slice, Sem.run_bind, run_underlying hd1, Result.andThen_ok, hrun, hei.size w, Sem.run_pure]
          · rw [show c - off - l.toNat = c - (off + l.toNat) by omega]
            refine .ref hm (by omega) ?_
            by_cases hz : c - off = l.toNat
            · exact .inr (by omega)
            · rw [if_neg hz]
              left
              have hA1 : A' = A.map (·.add (off * k)) := by
               rcases hA with h | h
               · exact h
               · omega
              rw [hA1]
              cases A with
              | none => rfl
              | some ad =>
               obtain ⟨hs, _⟩ := k5 ad rfl
               obtain ⟨bl, of_, sp⟩ := ad
               simp only at hs
               subst hs
               simp only [Option.map_some, Addr.add_lit, ← c4]
               rw [Nat.add_mul, Nat.add_assoc]
       | _ => rw [hx] at hr; cases hr
   · cases h
 · rename_i size bytes e zero b rows l h1 h2 h3
   have hrep := (I.ev h2).pvv
   have hti := hT _ _ h1
   obtain ⟨d, hd1, hd2⟩ := hti.desc
   have hd : d = .slice e := by cases d <;> simp [dOk] at hd2; rw [hd2]
   subst hd
   split at h
   · rename_i ei hh he hb
     split at h
     · rename_i hc
       obtain ⟨c1, c2, c3, c4⟩ := hc
       cases h
       have hei := hT _ _ he
       have hlo := bound_ok I h3
       have hhi := bound_ok I hb
       have hlo' : (lo.map a.eval = none ∧ l = 0) ∨ ∃ k, lo.map a.eval = some (.int k l) := by rcases hlo with ⟨p, q⟩ | p; exact .inl ⟨p, by simpa using q⟩; exact .inr p
       cases hx : a.eval x with
       | slice A l' c =>
        rw [hx] at hrep
        cases hrep with
        | nil =>
         have hh0 : hh = 0 := by simp at c3; omega
         have hl0 : l = 0 := by omega
         subst hh0
         subst hl0
         have hrun := bounds_run (P := C.P) (isS := true) (len := 0) (cap := c) hlo' (by rcases hhi with ⟨p, q⟩ | p; exact .inl ⟨p, rfl⟩; exact .inr p) (by omega) (by omega) (by omega) w
         refine ⟨.slice (if c = 0 then A else A.map (·.add (0 * ei.size))) (0 - 0) (c - 0), ?_, ?_⟩
         · simp only [execOp, ho, hx, Option.map_none]
           refine vrun ?_
           simp only [Instr.sliceAt, Instr.slice, Sem.run_bind, run_underlying hd1, Result.andThen_ok, hrun, hei.size w, Sem.run_pure]
           rfl
         · simp only [List.drop_nil, List.take_nil]
           exact .pv .nil
        | @sl _ _ ad _ k _ u hs hR hl hk hcc hrr =>
         obtain ⟨bl, of_, sp⟩ := ad
         simp only at hs
         subst hs
         have hrun := bounds_run (P := C.P) (isS := true) (len := rows.length) (cap := c) hlo' hhi c1 c2 (by omega) w
         refine ⟨.slice (if c = l.toNat then some ⟨bl, of_, none⟩ else (some ⟨bl, of_, none⟩ : Option Addr).map (·.add (l.toNat * ei.size))) (hh.toNat - l.toNat) (c - l.toNat), ?_, ?_⟩
         · simp only [execOp, ho, hx, Option.map_none]
           refine vrun ?_
           simp only [Instr.sliceAt, Instr.slice, Sem.run_bind, run_underlying hd1, Result.andThen_ok, hrun, hei.size w, Sem.run_pure]
         · by_cases hz : hh.toNat - l.toNat = 0
           · rw [hz, List.take_zero]
             exact .pv .nil
           · have hne : ¬ c = l.toNat := by omega
             rw [if_neg hne]
             simp only [Option.map_some, Addr.add_lit]
             have hlen : ((rows.drop l.toNat).take (hh.toNat - l.toNat)).length = hh.toNat - l.toNat := by simp; omega
             have key : ∀ i r, ((rows.drop l.toNat).take (hh.toNat - l.toNat))[i]? = some r → rows[l.toNat + i]? = some r := by
              intro i r hi
              rw [List.getElem?_take] at hi
              split at hi
              · simpa using hi
              · cases hi
             have hkk : k = ei.size := by
              have h8 : 0 < rows.length := by omega
              have h9 := List.getElem?_eq_getElem h8
              rw [← hk _ _ h9]
              exact c4 _ (List.getElem_mem h8)
             have hh' : ∀ v, v = hh.toNat - l.toNat → Rep w (bif b then RR s.hp w m else UU w0 S s.hp w m) (UU w0 S s.hp w m) (.slice (some ⟨bl, of_ + l.toNat * ei.size, none⟩) v (c - l.toNat)) (.sl ((rows.drop l.toNat).take (hh.toNat - l.toNat))) := by
              intro v hv
              subst hv
              have := Rep.sl (w := w) (R := bif b then RR s.hp w m else UU w0 S s.hp w m) (U := UU w0 S s.hp w m) (ad := ⟨bl, of_ + l.toNat * ei.size, none⟩) (c := c - l.toNat) (k := k) (rows := (rows.drop l.toNat).take (hh.toNat - l.toNat))
               (fun i j => u (l.toNat + i) j) rfl hR (by rw [hlen]; omega) (fun i r hi => hk _ _ (key i r hi))
               (fun i r j p hi hj => by
                have := hcc _ _ _ _ (key i r hi) hj
                dsimp only at this ⊢
                rw [← hkk, show of_ + l.toNat * k + (i * k + j) = of_ + ((l.toNat + i) * k + j) by rw [Nat.add_mul]; omega]
                exact this)
               (fun i r j p hi hj => hrr _ _ _ _ (key i r hi) hj)
              rw [hlen] at this
              exact this
             exact .pv (hh' _ rfl)
       | _ => rw [hx] at hrep; cases hrep
     · cases h
   · cases h
 · rename_i size bytes e zero l h1 h2 h3
   have hr := I.ev h2
   have hti := hT _ _ h1
   obtain ⟨d, hd1, hd2⟩ := hti.desc
   have hd : d = .slice e := by cases d <;> simp [dOk] at hd2; rw [hd2]
   subst hd
   split at h
   · rename_i ei hh he hb
     split at h
     · rename_i hc
       obtain ⟨rfl, rfl⟩ := hc
       cases h
       have hlo := bound_ok I h3
       have hhi := bound_ok I hb
       have hx : a.eval x = .slice none 0 0 := by
        have : ∀ v, RepT w m (RR s.hp w m) (UU w0 S s.hp w m) v .nl → v = .slice none 0 0 := fun v hv => by cases hv; rfl
        exact this _ hr
       have hrun := bounds_run (P := C.P) (isS := true) (len := 0) (cap := 0) (by rcases hlo with ⟨p, q⟩ | p; exact .inl ⟨p, rfl⟩; exact .inr p) (by rcases hhi with ⟨p, q⟩ | p; exact .inl ⟨p, rfl⟩; exact .inr p) (Int.le_refl 0) (Int.le_refl 0) (Int.le_refl 0) w
       refine ⟨.slice none 0 0, ?_, .nl⟩
       simp only [execOp, ho, hx, Option.map_none]
       refine vrun ?_
       simp only [Instr.sliceAt, Instr.slice, Sem.run_bind, run_underlying hd1, Result.andThen_ok, hrun, (hT _ _ he).size w, Sem.run_pure]
       rfl
     · cases h
   · cases h
 · rename_i size bytes mm e zero o' m' l h1 h2 h3
   have hr := I.ev h2
   have hti := hT _ _ h1
   obtain ⟨d, hd1, hd2⟩ := hti.desc
   have hd : d = .array mm e := by cases d <;> simp [dOk] at hd2; rw [hd2.1, hd2.2]
   subst hd
   split at h
   · rename_i st e' k rows ei hh hl he hb
     split at h
     · rename_i hc
       obtain ⟨c1, c2, c3, c4⟩ := hc
       cases h
       subst c3
       have hhi := bound_ok I hb
       have hrun := bounds_run (P := C.P) (isS := false) (len := mm) (cap := mm) (lo := Option.none) (l := 0) (.inl ⟨rfl, rfl⟩) hhi (Int.le_refl 0) c1 c2 w
       generalize hx : a.eval x = vx at hr
       cases hr with
       | @ap _ _ k' ad hm =>
        refine ⟨.slice (some ad) hh.toNat mm, ?_, ?_⟩
        · simp only [execOp, ho, hx, Option.map_none]
          refine vrun ?_
          simp only [Instr.sliceAt, Instr.sureAddr, Sem.run_bind, run_underlying hd1, Result.andThen_ok, hrun, (hT _ _ he).size w, Sem.run_pure]
          simp [Addr.add]
        · have := RepT.ref (w := w) (m := m) (R := RR s.hp w m) (U := UU w0 S s.hp w m) (o := o') (off := 0) (len := hh.toNat) (c := mm) (k := k') (A := some ad) (A' := some ad) hm (by omega) (.inl (by simp [Addr.add]))
          simpa using this
     · cases h
   · cases h
 · rename_i size bytes zero b str l h1 h2 h3
   obtain ⟨e1, _⟩ := (I.ev h2).scv
   have hti := hT _ _ h1
   obtain ⟨d, hd1, hd2⟩ := hti.desc
   have hd : d = .string := by cases d <;> simp [dOk] at hd2; rfl
   subst hd
   split at h
   · rename_i hh hb
     split at h
     · rename_i hc
       obtain ⟨c1, c2, c3⟩ := hc
       cases h
       have hlo := bound_ok I h3
       have hhi := bound_ok I hb
       have hrun := bounds_run (P := C.P) (isS := false) (len := str.size) (cap := str.size) (by rcases hlo with ⟨p, q⟩ | p; exact .inl ⟨p, by simpa using q⟩; exact .inr p) hhi c1 c2 c3 w
       refine ⟨.string (str.extract l.toNat hh.toNat), ?_, repSc rfl⟩
       simp only [execOp, ho, e1, Option.map_none]
       refine vrun ?_
       simp only [Instr.sliceAt, Instr.slice, Sem.run_bind, run_underlying hd1, Result.andThen_ok, hrun, Sem.run_pure, Option.isSome_none, Bool.false_eq_true, if_false]
     · cases h
   · cases h
 · cases h
theorem p_len {x : Operand} {t : Nat} {o : Oper} {args : Array Operand} {ts : Array TypeId} (ha : args.toList = [x]) (hts : ts.toList = [t]) (ho : o.op = .call { callee := .builtin .len, args := args, argTypes := ts }) {r : TV}
    (h : pureOp C s (.call { callee := .builtin .len, args := args, argTypes := ts }) = some r) : POk C w0 S s a w m o r := by
 have e1 : args = #[x] := by rw [← Array.toArray_toList (xs := args), ha]
 have e2 : ts = #[t] := by rw [← Array.toArray_toList (xs := ts), hts]
 subst e1
 subst e2
 simp only [pureOp] at h
 have fin : ∀ (v : Value) (k : Int), (Builtin.len_ #[t] o.type #[a.eval x]).run C.P w = .ok (.int .i64 k) w → POk C w0 S s a w m o (.pv false (.sc (.int .i64 k))) := by
  intro v k hk
  refine ⟨_, ?_, repSc rfl⟩
  simp only [execOp, ho, resolve, invoke, builtin, Sem.run_bind, Sem.run_pure, Result.andThen_ok, List.map_toArray, List.map_cons, List.map_nil, hk]
 split at h
 · rename_i size bytes e zero h1 h2
   cases h
   refine fin undef 0 ?_
   obtain ⟨d, hd1, hd2⟩ := (hT _ _ h1).desc
   have hd : d = .slice e := by cases d <;> simp [dOk] at hd2; rw [hd2]
   subst hd
   have hr := I.ev h2
   cases hx : a.eval x with
   | slice A l c => rw [hx] at hr; cases hr; simp [Builtin.len_, run_underlying hd1, goInt]
   | _ => rw [hx] at hr; cases hr
 · rename_i size bytes e zero o' off len h1 h2
   cases h
   refine fin undef len ?_
   obtain ⟨d, hd1, hd2⟩ := (hT _ _ h1).desc
   have hd : d = .slice e := by cases d <;> simp [dOk] at hd2; rw [hd2]
   subst hd
   have hr := I.ev h2
   cases hx : a.eval x with
   | slice A l c => rw [hx] at hr; cases hr; simp [Builtin.len_, run_underlying hd1, goInt]
   | _ => rw [hx] at hr; cases hr
 · rename_i size bytes e zero b rows h1 h2
   cases h
   refine fin undef rows.length ?_
   obtain ⟨d, hd1, hd2⟩ := (hT _ _ h1).desc
   have hd : d = .slice e := by cases d <;> simp [dOk] at hd2; rw [hd2]
   subst hd
   have hr := (I.ev h2).pvv
   cases hx : a.eval x with
   | slice A l c => rw [hx] at hr; cases hr <;> simp [Builtin.len_, run_underlying hd1, goInt]
   | _ => rw [hx] at hr; cases hr
 · rename_i size bytes zero b str h1 h2
   cases h
   obtain ⟨e1, _⟩ := (I.ev h2).scv
   refine fin undef str.size ?_
   obtain ⟨d, hd1, hd2⟩ := (hT _ _ h1).desc
   have hd : d = .string := by cases d <;> simp [dOk] at hd2; rfl
   subst hd
   simp [Builtin.len_, run_underlying hd1, goInt, e1]
 · rename_i size bytes e zero o' π off len h1 h2
   cases h
   refine fin undef len ?_
   obtain ⟨d, hd1, hd2⟩ := (hT _ _ h1).desc
   have hd : d = .slice e := by cases d <;> simp [dOk] at hd2; rw [hd2]
   subst hd
   have hr := I.ev h2
   cases hx : a.eval x with
   | slice A l c => rw [hx] at hr; cases hr; simp [Builtin.len_, run_underlying hd1, goInt]
   | _ => rw [hx] at hr; cases hr
 · rename_i size bytes e zero so rows h1 h2
   cases h
   refine fin undef rows.length ?_
   obtain ⟨d, hd1, hd2⟩ := (hT _ _ h1).desc
   have hd : d = .slice e := by cases d <;> simp [dOk] at hd2; rw [hd2]
   subst hd
   have hr : ∃ (w1 : World) (B : Nat → Prop), Rep w1 B B (a.eval x) (.sl rows) := by
    have hr := I.ev h2
    generalize a.eval x = vx at hr ⊢
    cases hr with | dv _ h => exact ⟨_, _, h⟩
   obtain ⟨w1, B, hr⟩ := hr
   cases hx : a.eval x with
   | slice A l c => rw [hx] at hr; cases hr <;> simp [Builtin.len_, run_underlying hd1, goInt]
   | _ => rw [hx] at hr; cases hr
 · cases h
theorem p_maxmin {x y : Operand} {o : Oper} {args : Array Operand} {ts : Array TypeId} (ha : args.toList = [x, y]) {k k' : IntKind} {p q : Int} {b b' : Bool} (h1 : s.ev x = some (.pv b (.sc (.int k p)))) (h2 : s.ev y = some (.pv b' (.sc (.int k' q)))) :
    (o.op = .call { callee := .builtin .max, args := args, argTypes := ts } → POk C w0 S s a w m o (.pv false (.sc (.int k (if q > p then q else p))))) ∧
    (o.op = .call { callee := .builtin .min, args := args, argTypes := ts } → POk C w0 S s a w m o (.pv false (.sc (.int k (if q < p then q else p))))) := by
 have _ := hT
 have e1 : args = #[x, y] := by rw [← Array.toArray_toList (xs := args), ha]
 subst e1
 obtain ⟨e1, _⟩ := (I.ev h1).scv
 obtain ⟨e2, _⟩ := (I.ev h2).scv
 constructor
 · intro ho
   refine ⟨_, ?_, repSc rfl⟩
   simp [execOp, ho, resolve, invoke, builtin, e1, e2, Builtin.max_, Builtin.max2]
 · intro ho
   refine ⟨_, ?_, repSc rfl⟩
   simp [execOp, ho, resolve, invoke, builtin, e1, e2, Builtin.min_, Builtin.min2]
end
end Go.Pm
namespace Go.Pm
open Go
theorem opt_mapM {α β : Type} (g : α → Option β) (f : α → β) : ∀ (l : List α), (∀ x ∈ l, g x = some (f x)) → l.mapM g = some (l.map f) := by
 intro l
 induction l with
 | nil => intro _; rfl
 | cons x l ih =>
  intro h
  simp [List.mapM_cons, h x (by simp), ih (fun y hy => h y (by simp [hy]))]
section
variable [Dd] {C : Cfg} (hT : TabOk C) {w0 : World} {own0 S : Nat → Prop} {n : Nat} {s : St} {a : Act} {w : World} {m : Mp} (I : Inv w0 own0 S n s a w m)
include hT I
theorem buildUp_ok {fs : List (Nat × Nat)} {place : Nat → Option (Nat × Nat)} (hp : ∀ i off ft fi, fs[i]? = some (off, ft) → C.T ft = some fi → place i = some (off, fi.size)) : ∀ {parts : List (Nat × Operand)} {z : List TV} {cells : Array Value} {t : TV},
    (∀ x ∈ z, x.isCell = true) → cells.size = z.length → (∀ j x, z[j]? = some x → RepT w m (RR s.hp w m) (UU w0 S s.hp w m) (cells.getD j undef) x) → pureOp.buildUp C fs z parts s = some t →
    ∃ cells', Instr.fill place cells (parts.map fun (x : Nat × Operand) => (x.1, a.eval x.2)) = some cells' ∧ RepT w m (RR s.hp w m) (UU w0 S s.hp w m) (.agg cells') t := by
 have _ := hT
 intro parts
 induction parts with
 | nil => intro z cells t hi hs hr h; cases h; exact ⟨cells, rfl, .ag hi hs hr⟩
 | cons p l ih =>
  intro z cells t hi hs hr h
  obtain ⟨i, x⟩ := p
  simp only [pureOp.buildUp] at h
  split at h
  · rename_i off ft v h1 h2
    split at h
    · rename_i fi vs h3 h4
      split at h
      · rename_i hc
        obtain ⟨c1, c2⟩ := hc
        obtain ⟨k1, k2, k3⟩ := cells_ok (I.ev h2) h4
        have hfit : off + (a.eval x).cells.toList.length ≤ cells.size := by simp; omega
        have hvl : (a.eval x).cells.toList.length = vs.length := by simpa using k1
        have hz : z.take off ++ vs ++ z.drop (off + vs.length) = splice z off vs := rfl
        rw [hz] at h
        obtain ⟨cells', f1, f2⟩ := ih (z := splice z off vs) (cells := over cells off (a.eval x).cells.toList) (fun y hy => by rcases splice_mem hy with h' | h'; exact hi y h'; exact k3 y h')
         (by rw [over_size, splice_length _ _ _ (by omega), hs]) (fun j y hj => by
          rw [splice_get _ _ _ (by omega)] at hj
          rw [over_get _ _ _ hfit, hvl]
          split at hj
          · rename_i hin; rw [if_pos hin, getD_list]; exact k2 _ _ hj
          · rename_i hin; rw [if_neg hin]; exact hr j y hj) h
        refine ⟨cells', ?_, f2⟩
        simp only [List.map_cons, Instr.fill, hp i off ft fi h1 h3]
        have e1 : (decide ((a.eval x).cells.size ≠ fi.size) || decide (off + (a.eval x).cells.size > cells.size)) = false := by simp; omega
        simp only [e1, Bool.false_eq_true, if_false]
        rw [← f1]
        congr 1
        exact fill_step _ _ _
      · cases h
    · cases h
  · cases h
theorem p_build {t : Nat} {parts : Array (Nat × Operand)} {o : Oper} (ho : o.op = .build t parts) {r : TV} (h : pureOp C s (.build t parts) = some r) : POk C w0 S s a w m o r := by
 simp only [pureOp] at h
 split at h
 · rename_i size bytes fs z h1
   have hti := hT _ _ h1
   obtain ⟨fields, k1, k2, k3⟩ := hti.strct w rfl
   obtain ⟨zv, z1, z2, z3⟩ := hti.zero w
   dsimp only at z3
   have hzr := zOk_rep z3 w m (RR s.hp w m) (UU w0 S s.hp w m)
   obtain ⟨it, i1, i2, i3, zv', i4, _⟩ := hti.info
   obtain ⟨d, hd1, hd2⟩ := hti.desc
   have hd : d = .struct fields := by
    have := run_underlying hd1 w
    rw [k1] at this
    cases this; rfl
   subst hd
   have hzz : zv' = zv := by
    have : (zeroValue t).run C.P w = .ok zv' w := by simp [zeroValue, typeInfo, i1, i4]
    rw [z1] at this
    cases this; rfl
   subst hzz
   cases zv' with
   | agg arr =>
    cases hzr with
    | ag hi hs hr =>
     have hmap : fields.toList.mapM (fun f => (C.P.info? f.type).map fun i => (f.offset, i.size)) = some (fields.toList.map fun f => (f.offset, ((C.P.info? f.type).map (·.size)).getD 0)) := by
      refine opt_mapM _ _ _ (fun f hf => ?_)
      obtain ⟨j, hj, rfl⟩ := List.getElem_of_mem hf
      have hj' : j < fs.length := by rw [← k2]; simpa using hj
      obtain ⟨f', f1, f2, f3, tii, f4, f5⟩ := k3 j _ (List.getElem?_eq_getElem hj')
      have e : fields.toList[j] = f' := by
       have : fields[j]? = some fields.toList[j] := by simp [Array.getElem?_eq_getElem (show j < fields.size by simpa using hj)]
       rw [this] at f1; cases f1; rfl
      rw [e]
      simp [f4]
     obtain ⟨cells', f1, f2⟩ := buildUp_ok (place := fun i => (fields.toList.map fun f => (f.offset, ((C.P.info? f.type).map (·.size)).getD 0)).toArray[i]?) hT I (fun i off ft fi hi hfi => by
      obtain ⟨f', f1, f2, f3, tii, f4, f5⟩ := k3 i _ hi
      dsimp only at f2 f3
      obtain ⟨ti2, q1, q2, _⟩ := (hT _ _ hfi).info
      rw [f3] at f4
      rw [q1] at f4
      cases f4
      have f1' : fields.toList[i]? = some f' := by simpa using f1
      simp only [List.getElem?_toArray, List.getElem?_map, f1', Option.map_some, f2, f3, q1, q2, Option.getD_some]) hi hs hr h
     refine ⟨.agg cells', ?_, f2⟩
     simp only [execOp, ho]
     refine vrun (_root_.Go.run_build w t _ cells' ?_)
     have e1 : (parts.map fun x => (x.1, a.eval x.2)).toList = parts.toList.map fun (x : Nat × Operand) => (x.1, a.eval x.2) := by simp
     unfold Program.built
     rw [i1, hd1]
     simp only [i4, hmap, e1]
     exact f1
   | _ => cases hzr
 · rename_i size bytes nn e z h1
   split at h
   · rename_i ei he
     split at h
     · rename_i hp0
       cases h
       have hti := hT _ _ h1
       obtain ⟨it, i1, i2, i3, zv, i4, i5, i6⟩ := hti.info
       dsimp only at i6
       have hzr := zOk_rep i6 w m (RR s.hp w m) (UU w0 S s.hp w m)
       obtain ⟨d, hd1, hd2⟩ := hti.desc
       have hd : d = .array nn e := by cases d <;> simp [dOk] at hd2; rw [hd2.1, hd2.2]
       subst hd
       obtain ⟨ie, j1, _⟩ := (hT _ _ he).info
       cases zv with
       | agg arr =>
        refine ⟨.agg arr, ?_, hzr⟩
        simp only [execOp, ho]
        refine vrun (_root_.Go.run_build w t _ arr ?_)
        have e1 : (parts.map fun x => (x.1, a.eval x.2)).toList = [] := List.eq_nil_of_length_eq_zero (by simpa using hp0)
        unfold Program.built
        rw [i1, hd1]
        simp only [i4, j1, e1]
        rfl
       | _ => cases hzr
     · cases h
   · cases h
 · cases h
theorem pureOp_ok {o : Oper} {r : TV} (h : pureOp C s o.op = some r) : POk C w0 S s a w m o r := by
 cases ho : o.op with
 | move x => rw [ho] at h; exact ⟨a.eval x, by simp [execOp, ho], I.ev h⟩
 | assign x => rw [ho] at h; exact ⟨a.eval x, by simp [execOp, ho], I.ev h⟩
 | binOp op t x y t' => rw [ho] at h; exact p_binOp hT I ho h
 | unOp op t x => rw [ho] at h; exact p_unOp hT I ho h
 | extract x i => rw [ho] at h; exact p_extract hT I ho h
 | field t x i => rw [ho] at h; exact p_field hT I ho h
 | fieldAddr t x i => rw [ho] at h; exact p_fieldAddr hT I ho h
 | indexAddr t x i => rw [ho] at h; exact p_indexAddr hT I ho h
 | index t x i => rw [ho] at h; exact p_index hT I ho h
 | slice t x lo hi mx =>
  rw [ho] at h
  cases mx with
  | none => exact p_slice hT I ho h
  | some mx =>
   cases lo with
   | none => simp [pureOp] at h
   | some lo =>
    cases hi with
    | none => simp [pureOp] at h
    | some hi => exact p_slice3 hT I ho h
 | nilCheck x => rw [ho] at h; exact p_nilCheck hT I ho h
 | convert src dst x => rw [ho] at h; exact p_convert hT I ho h
 | makeFunc fn first caps => rw [ho] at h; exact p_makeFunc hT I ho h
 | build t parts => rw [ho] at h; exact p_build hT I ho h
 | call c =>
  rw [ho] at h
  obtain ⟨callee, args, ts⟩ := c
  cases callee with
  | builtin b =>
   cases b with
   | len =>
    have h' := h
    simp only [pureOp] at h'
    split at h'
    · rename_i x t e1 e2; exact p_len hT I e1 e2 ho h
    · cases h'
   | max =>
    simp only [pureOp] at h
    split at h
    · rename_i x y e1
      split at h
      · rename_i h1 h2; cases h; exact (p_maxmin hT I e1 h1 h2).1 ho
      · cases h
    · cases h
   | min =>
    simp only [pureOp] at h
    split at h
    · rename_i x y e1
      split at h
      · rename_i h1 h2; cases h; exact (p_maxmin hT I e1 h1 h2).2 ho
      · cases h
    · cases h
   | _ => simp [pureOp] at h
  | _ => simp [pureOp] at h
 | _ => rw [ho] at h; simp [pureOp] at h
end
end Go.Pm
namespace Go.Pm
open Go
abbrev MOk [Dd] (C : Cfg) (w0 : World) (own0 S : Nat → Prop) (hp : Hp) (a : Act) (w : World) (m : Mp) (o : Oper) (t : TV) (hp' : Hp) : Prop :=
 ∃ x u w' m', (execOp a.eval o).run C.P w = .ok x w' ∧ (x = .value u ∨ (x = .skip ∧ u = undef)) ∧ Mem w0 own0 S hp' w' m' ∧ Goes hp w m hp' w' m' ∧ RepT w' m' (RR hp' w' m') (UU w0 S hp' w' m') u t
theorem urun {P : Program} {x : Sem Unit} {w w' : World} (h : x.run P w = .ok () w') : (do x; pure Next.skip : Sem Next).run P w = .ok .skip w' := by
 simp only [Sem.run_bind, h, Result.andThen_ok, Sem.run_pure]
section
variable [Dd] {C : Cfg} (hT : TabOk C) {w0 : World} {own0 S : Nat → Prop} {n : Nat} {s : St} {a : Act} {w : World} {m : Mp} (I : Inv w0 own0 S n s a w m)
include hT I
theorem m_load {t : Nat} {x : Operand} {o : Oper} {d : Nat} (ho : o.op = .load t x) {r : TV} {hp' : Hp} (h : memOp C s d (.load t x) = some (r, hp')) : MOk C w0 own0 S s.hp a w m o r hp' := by
 simp only [memOp] at h
 split at h
 · rename_i ti y h1 h2
   split at h
   · rename_i v hv
     cases h
     obtain ⟨u, h3, h4⟩ := load_ok I.mem (hT _ _ h1) (I.ev h2) hv
     exact ⟨.value u, u, w, m, by simp only [execOp, ho]; exact vrun h3, .inl rfl, I.mem, Goes.refl I.mem, h4⟩
   · cases h
 · cases h
theorem m_store {t : Nat} {x y : Operand} {o : Oper} {d : Nat} (ho : o.op = .store t x y) {r : TV} {hp' : Hp} (h : memOp C s d (.store t x y) = some (r, hp')) : MOk C w0 own0 S s.hp a w m o r hp' := by
 simp only [memOp] at h
 split at h
 · rename_i ti p q h1 h2 h3
   split at h
   · rename_i hp1 hv
     cases h
     obtain ⟨w', k1, k2, k3⟩ := store_ok I.mem (hT _ _ h1) (I.ev h2) (I.ev h3) hv
     exact ⟨.skip, undef, w', m, by simp only [execOp, ho]; exact urun k1, .inr ⟨rfl, rfl⟩, k2, k3, .tu rfl (fun j t hj => by simp at hj)⟩
   · cases h
 · cases h
theorem m_box {t : Nat} {x : Operand} {o : Oper} {d : Nat} (ho : o.op = .box t x) {r : TV} {hp' : Hp} (h : memOp C s d (.box t x) = some (r, hp')) : MOk C w0 own0 S s.hp a w m o r hp' := by
 have _ := hT
 simp only [memOp] at h
 split at h
 · rename_i v h1
   split at h
   · rename_i ob hb
     split at h
     · rename_i hp1 hadd
       cases h
       obtain ⟨M, g⟩ := box_ok I.mem t (I.ev h1) hb hadd
       refine ⟨.value (.pointer (some ⟨w.heap.size, 0, none⟩)), _, _, _, ?_, .inl rfl, M, g, .bp (upd_same _ _ _)⟩
       simp only [execOp, ho]
       refine vrun ?_
       simp only [Instr.box, newVar, newRow, Sem.run_bind, run_newObj, Result.andThen_ok, Sem.run_pure, World.alloc]
     · cases h
   · cases h
 · cases h
theorem m_alloc {t : Nat} {o : Oper} {d : Nat} (ho : o.op = .alloc t) {r : TV} {hp' : Hp} (h : memOp C s d (.alloc t) = some (r, hp')) : MOk C w0 own0 S s.hp a w m o r hp' := by
 simp only [memOp] at h
 split at h
 · rename_i ti h1
   split at h
   · rename_i rows hrow
     split at h
     · rename_i hp1 hadd
       cases h
       unfold arrRow at hrow
       split at hrow
       · rename_i n e ps hk hzz
         split at hrow
         · split at hrow
           · rename_i hpos
             cases hrow
             obtain ⟨h16, hid, rfl⟩ := add_some hadd
             obtain ⟨z, z1, z2, z3⟩ := (hT _ _ h1).zero w
             rw [hzz] at z3
             have hz := zOk_rep z3 w m (RR s.hp w m) (UU w0 S s.hp w m)
             cases hz with
             | @ar arr _ a1 a2 =>
              obtain ⟨M, g⟩ := row_ok (w' := w.alloc (.cells arr t)) (c := ps.length) (e := t) (k := 1) (st := .own) (rows := ps.map fun p => [p]) I.mem (by simp) h16 hid (On.alloc _ _) (fun b hb => alloc_old _ _ b hb) (Cells.alloc w arr t) (by omega) (by simp) (by omega)
               (fun r hr => by obtain ⟨p, _, rfl⟩ := List.mem_map.1 hr; rfl) (fun i r j p hi hj => by
                rw [List.getElem?_map] at hi
                cases hq : ps[i]? with
                | none => rw [hq] at hi; cases hi
                | some q =>
                 rw [hq] at hi
                 cases hi
                 cases j with
                 | zero => simp at hj; subst hj; simpa using a2 i _ hq
                 | succ j => simp at hj)
              refine ⟨.value (.pointer (some ⟨w.heap.size, 0, none⟩)), _, _, _, ?_, .inl rfl, M, g, ?_⟩
              · simp only [execOp, ho]
                refine vrun ?_
                simp only [Instr.alloc, newVar, newRow, Sem.run_bind, z1, run_newObj, Result.andThen_ok, Sem.run_pure, World.alloc, Value.cells]
              · have := RepT.ap (w := w.alloc (.cells arr t)) (R := RR (put s.hp (nid d 0) (.row .own t 1 (ps.map fun p => [p]))) (w.alloc (.cells arr t)) (upd m (nid d 0) (.row (some ⟨w.heap.size, 0, none⟩) ps.length 1)))
                  (U := UU w0 S (put s.hp (nid d 0) (.row .own t 1 (ps.map fun p => [p]))) (w.alloc (.cells arr t)) (upd m (nid d 0) (.row (some ⟨w.heap.size, 0, none⟩) ps.length 1)))
                  (m := upd m (nid d 0) (.row (some ⟨w.heap.size, 0, none⟩) ps.length 1)) (upd_same m _ _)
                simpa using this
           · cases hrow
         · cases hrow
       · cases hrow
     · cases h
   split at h
   · rename_i ob hb
     split at h
     · rename_i hp1 hadd
       cases h
       obtain ⟨z, z1, z2, z3⟩ := (hT _ _ h1).zero w
       obtain ⟨M, g⟩ := box_ok I.mem t (zOk_rep z3 w m (RR s.hp w m) (UU w0 S s.hp w m)) hb hadd
       refine ⟨.value (.pointer (some ⟨w.heap.size, 0, none⟩)), _, _, _, ?_, .inl rfl, M, g, .bp (upd_same _ _ _)⟩
       simp only [execOp, ho]
       refine vrun ?_
       simp only [Instr.alloc, newVar, newRow, Sem.run_bind, z1, run_newObj, Result.andThen_ok, Sem.run_pure, World.alloc]
     · cases h
   · cases h
 · cases h
theorem m_make {t : Nat} {x y : Operand} {o : Oper} {d : Nat} (ho : o.op = .makeSlice t x y) {r : TV} {hp' : Hp} (h : memOp C s d (.makeSlice t x y) = some (r, hp')) : MOk C w0 own0 S s.hp a w m o r hp' := by
 simp only [memOp] at h
 split at h
 · rename_i size bytes e zero b q b' q' h1 h2 h3
   split at h
   · rename_i ei he
     split at h
     · rename_i z hz
       split at h
       · rename_i hc
         obtain ⟨c1, c2, c3, c4, c5, c6⟩ := hc
         subst c2
         split at h
         · rename_i hp1 hadd
           cases h
           obtain ⟨e1, _⟩ := (I.ev h2).scv
           obtain ⟨e2, _⟩ := (I.ev h3).scv
           have hti := hT _ _ h1
           have hei := hT _ _ he
           obtain ⟨zv, z1, z2, z3, cells, r1, r2, r3⟩ := run_make hti rfl hei c1 c3 c6 c4 w
           obtain ⟨y1, y2⟩ := zeroRow_ok z3 hz
           obtain ⟨h16, hid, rfl⟩ := add_some hadd
           obtain ⟨M, g⟩ := row_ok (w' := w.alloc (.cells cells e)) (c := q.toNat) (e := e) (k := ei.size) (st := .own) (rows := List.replicate q.toNat z) I.mem (by simp) h16 hid (On.alloc _ _) (fun b hb => alloc_old _ _ b hb) (Cells.alloc w cells e) c4 (by simp) (by omega)
            (fun r hr => by rw [List.eq_of_mem_replicate hr]; exact c5) (fun i r j p hi hj => by
             have hil : i < q.toNat := by have := (List.getElem?_eq_some_iff.1 hi).1; simpa using this
             have hrz : r = z := by
              have := List.getElem?_eq_some_iff.1 hi
              obtain ⟨h8, h9⟩ := this
              rw [← h9]; simp
             subst hrz
             have hjl : j < ei.size := by rw [← c5]; exact (List.getElem?_eq_some_iff.1 hj).1
             rw [r3 i j hil hjl]
             exact y2 j p hj _ _ _)
           refine ⟨.value (.slice (some ⟨w.heap.size, 0, none⟩) q.toNat q.toNat), _, _, _, ?_, .inl rfl, M, g, ?_⟩
           · simp only [execOp, ho, e1, e2]
             exact vrun r1
           · have := RepT.ref (w := w.alloc (.cells cells e)) (R := RR (put s.hp (nid d 0) (.row .own e ei.size (List.replicate q.toNat z))) (w.alloc (.cells cells e)) (upd m (nid d 0) (.row (some ⟨w.heap.size, 0, none⟩) q.toNat ei.size)))
               (U := UU w0 S (put s.hp (nid d 0) (.row .own e ei.size (List.replicate q.toNat z))) (w.alloc (.cells cells e)) (upd m (nid d 0) (.row (some ⟨w.heap.size, 0, none⟩) q.toNat ei.size)))
               (m := upd m (nid d 0) (.row (some ⟨w.heap.size, 0, none⟩) q.toNat ei.size)) (o := nid d 0) (off := 0) (len := q.toNat) (c := q.toNat) (k := ei.size) (A := some ⟨w.heap.size, 0, none⟩) (A' := some ⟨w.heap.size, 0, none⟩) (upd_same m _ _) (by omega) (.inl (by simp [Addr.add]))
             simpa using this
         · cases h
       · cases h
     · cases h
   · cases h
 · cases h
theorem m_buildTree {t len : Nat} {parts : Array (Nat × Operand)} {o : Oper} {d : Nat} (ho : o.op = .buildSlice t len parts) {ti ei : TI} {e : Nat} (h1 : C.T t = some ti) (hk : ti.kind = .slice e) (he : C.T e = some ei) {row : List PV} {b : Bool} {hp1 hp2 : Hp}
    (htr : treeRow C.att s e ei len parts.toList = some (row, b, hp1)) (hadd : add hp1 (nid d 0) (.tree (bif b then .own else .io) [row]) = some hp2) : MOk C w0 own0 S s.hp a w m o (.nr (nid d 0) [] 0 1) hp2 := by
 unfold treeRow at htr
 split at htr
 rotate_left
 · cases htr
 rename_i x hparts
 split at htr
 rotate_left
 · cases htr
 rename_i v hv
 split at htr
 rotate_left
 · cases htr
 rename_i vs hvs
 cases htt : vs.any (TV.isNr C.att) with
 | false => rw [htt] at htr; cases htr
 | true =>
 rw [htt] at htr
 simp only [cond_true] at htr
 split at htr
 rotate_left
 · cases htr
 rename_i hcond
 obtain ⟨rfl, c2, c3, c4, c5⟩ := hcond
 have hti := hT _ _ h1
 have hei := hT _ _ he
 obtain ⟨k1, k2, k3⟩ := cells_ok (I.ev hv) hvs
 obtain ⟨M1, g1, K, n1, sub, u1, u2, u3, u4, u5, u6⟩ := absorbs_ok I.mem k2 htr
 obtain ⟨zv, z3, z2, cells0, s1, s2, s3⟩ := run_build (P := C.P) hti hk hei 1 (by omega) w
 have hus : (a.eval x).cells.toList.length = ei.size := by simp; omega
 have hfit : 0 + (a.eval x).cells.toList.length ≤ cells0.size := by omega
 have hfill : Instr.fill (fun i => some (i * ei.size, ei.size)) cells0 [(0, a.eval x)] = some (over cells0 0 (a.eval x).cells.toList) := by
  simp only [Instr.fill]
  have c1 : (decide ((a.eval x).cells.size ≠ ei.size) || decide (0 + (a.eval x).cells.size > cells0.size)) = false := by
   simp at hus hfit ⊢; omega
  simp only [Nat.zero_mul]
  rw [c1]
  simp only [Bool.false_eq_true, if_false]
  congr 1
  exact fill_step _ _ _
 obtain ⟨h16, hid, rfl⟩ := add_some hadd
 have hlen : row.length = ei.size := by rw [n1, c2]
 have hone : ∀ (i : Nat) (r : List PV), [row][i]? = some r → i = 0 ∧ r = row := fun i r h => by
  cases i with
  | zero => simp at h; exact ⟨rfl, h.symm⟩
  | succ i => simp at h
 let subI : Nat → Nat → GMap := fun i j => if i = 0 then sub j else fun _ => none
 have S0 : ∀ j, subI 0 j = sub j := fun j => by simp [subI]
 have S1 : ∀ i j q, TBlk (subI i j) q → i = 0 ∧ TBlk (sub j) q := fun i j q h => by
  by_cases hi : i = 0
  · subst hi; rw [S0] at h; exact ⟨rfl, h⟩
  · obtain ⟨_, _, _, _, h, _⟩ := h
    simp [subI, hi] at h
 have hst : (bif b then RS.own else RS.io) ≠ .fz := by cases b <;> simp
 obtain ⟨m', M', g', R'⟩ := plant_new (hp' := hp1) (w2 := w) (id := nid d 0) (st := bif b then RS.own else RS.io) (e := e) (k := ei.size) (c := 1) (rows := [row]) (cells := over cells0 0 (a.eval x).cells.toList) (sub := subI) I.mem K (On.refl w) rfl hst h16 hid c5 c3 (by simp) (by rw [over_size]; simpa using s1)
  (fun r hr => by simp at hr; rw [hr]; exact hlen) (fun i r j p hi hj => by
   obtain ⟨rfl, rfl⟩ := hone i r hi
   have hjl : j < ei.size := by rw [← hlen]; exact (List.getElem?_eq_some_iff.1 hj).1
   rw [S0, over_get _ _ _ hfit, if_pos (by omega), getD_list]
   have := u1 j p hj
   simpa using this) (fun i r j rs hi hj => by
   obtain ⟨rfl, rfl⟩ := hone i r hi
   rw [S0]; exact u2 j rs hj) (fun i j π y hy => by
   by_cases hi : i = 0
   · subst hi
     rw [S0] at hy
     obtain ⟨rs, h⟩ := u3 j π y hy
     exact ⟨row, rs, rfl, h⟩
   · simp [subI, hi] at hy) (fun i j i' j' q h h' => by
   obtain ⟨rfl, h⟩ := S1 i j q h
   obtain ⟨rfl, h'⟩ := S1 i' j' q h'
   rw [u5 j j' q h h']) (fun i j q h => u4 j q (S1 i j q h).2) (fun hs i j q h => u6 (by cases b <;> first | rfl | cases hs) j q (S1 i j q h).2)
 refine ⟨.value (.slice (some ⟨w.heap.size, 0, none⟩) 1 1), _, _, _, ?_, .inl rfl, M', g', R'⟩
 simp only [execOp, ho]
 refine vrun (s3 _ _ ?_)
 have e1 : (parts.map fun x => (x.1, a.eval x.2)).toList = parts.toList.map fun (x : Nat × Operand) => (x.1, a.eval x.2) := by simp
 rw [e1, hparts]
 exact hfill
theorem m_buildSlice {t len : Nat} {parts : Array (Nat × Operand)} {o : Oper} {d : Nat} (ho : o.op = .buildSlice t len parts) {r : TV} {hp' : Hp} (h : memOp C s d (.buildSlice t len parts) = some (r, hp')) : MOk C w0 own0 S s.hp a w m o r hp' := by
 simp only [memOp] at h
 split at h
 · rename_i size bytes e zero h1
   split at h
   · rename_i ei he
     split at h
     · rename_i row b hp1 htr
       split at h
       · rename_i hp2 hadd
         cases h
         exact m_buildTree hT I ho h1 rfl he htr hadd
       · cases h
     split at h
     · rename_i z hz
       split at h
       · rename_i hc
         obtain ⟨c1, c2, c3⟩ := hc
         split at h
         · rename_i rows hp1 hfill
           split at h
           · rename_i hp2 hadd
             cases h
             have hti := hT _ _ h1
             have hei := hT _ _ he
             obtain ⟨zv, z3, z2, cells0, s1, s2, s3⟩ := run_build (P := C.P) hti rfl hei len c1 w
             obtain ⟨y1, y2⟩ := zeroRow_ok z3 hz
             obtain ⟨cells, f1, M1, g1, f4, f5, f6⟩ := fill_ok I (k := ei.size) (cells := cells0) I.mem (Goes.refl I.mem) (by simpa using s1) ⟨fun r hr => by rw [List.eq_of_mem_replicate hr]; exact c3, fun i r j p hi hj => by
              have hil : i < len := by have := (List.getElem?_eq_some_iff.1 hi).1; simpa using this
              have hrz : r = z := by
               obtain ⟨h8, h9⟩ := List.getElem?_eq_some_iff.1 hi
               rw [← h9]; simp
              subst hrz
              have hjl : j < ei.size := by rw [← c3]; exact (List.getElem?_eq_some_iff.1 hj).1
              rw [s2 i j hil hjl]
              exact y2 j p hj _ _ _⟩ hfill
             have hrl : rows.length = len := by simpa using f4
             obtain ⟨h16, hid, rfl⟩ := add_some hadd
             obtain ⟨M, g⟩ := row_ok (w' := w.alloc (.cells cells e)) (c := len) (e := e) (k := ei.size) (st := .own) (rows := rows) M1 (by simp) h16 hid (On.alloc _ _) (fun b hb => alloc_old _ _ b hb) (Cells.alloc w cells e) c2 (by omega) (by simp at f5; omega) f6.1 f6.2
             refine ⟨.value (.slice (some ⟨w.heap.size, 0, none⟩) len len), _, _, _, ?_, .inl rfl, M, g1.trans g, ?_⟩
             · simp only [execOp, ho]
               refine vrun (s3 _ cells ?_)
               have e1 : (parts.map fun x => (x.1, a.eval x.2)).toList = parts.toList.map fun (x : Nat × Operand) => (x.1, a.eval x.2) := by simp
               rw [← f1, ← e1]
             · have := RepT.ref (w := w.alloc (.cells cells e)) (R := RR (put hp1 (nid d 0) (.row .own e ei.size rows)) (w.alloc (.cells cells e)) (upd m (nid d 0) (.row (some ⟨w.heap.size, 0, none⟩) len ei.size)))
                 (U := UU w0 S (put hp1 (nid d 0) (.row .own e ei.size rows)) (w.alloc (.cells cells e)) (upd m (nid d 0) (.row (some ⟨w.heap.size, 0, none⟩) len ei.size)))
                 (m := upd m (nid d 0) (.row (some ⟨w.heap.size, 0, none⟩) len ei.size)) (o := nid d 0) (off := 0) (len := len) (c := len) (k := ei.size) (A := some ⟨w.heap.size, 0, none⟩) (A' := some ⟨w.heap.size, 0, none⟩) (upd_same m _ _) (by omega) (.inl (by simp [Addr.add]))
               simpa using this
           · cases h
         · cases h
       · cases h
     · cases h
   · cases h
 · cases h
end
end Go.Pm
namespace Go.Pm
open Go
def srcRows (hp : Hp) : TK → TV → Option (List (List PV))
 | .str, .pv _ (.sc (.string b)) => some (b.data.toList.map fun (c : UInt8) => [PV.sc (.int .u8 c.toNat)])
 | .slice _, v => rowsOf hp v
 | _, _ => none
section
variable [Dd] {C : Cfg} (hT : TabOk C) {w0 : World} {own0 S : Nat → Prop} {n : Nat} {s : St} {a : Act} {w : World} {m : Mp} (I : Inv w0 own0 S n s a w m)
theorem src_ok {v : Value} {t : TV} {hp : Hp} {P : Program} {tk : TK} {news : List (List PV)} {k : Nat} (M : Mem w0 own0 S hp w m) (hv : RepT w m (RR hp w m) (UU w0 S hp w m) v t) (h : srcRows hp tk t = some news) (hk : ∀ r ∈ news, r.length = k) (h0 : 0 < k)
    (w' : World) (on : On w w') (hw : ∀ b, b < w.heap.size → w'.heap[b]? = w.heap[b]?) : ∃ arr : Array Value, (Builtin.lenOf v).run P w' = .ok news.length w' ∧ (Builtin.firstCells k news.length v).run P w' = .ok arr w' ∧ arr.size = news.length * k ∧ RowsIn w' (UU w0 S hp w' m) k news arr ∧ ∀ y ∈ arr.toList, y.oneCell' = true := by
 have fin : ∀ {R : Nat → Prop}, Rep w R (UU w0 S hp w m) v (.sl news) → ∃ arr : Array Value, (Builtin.lenOf v).run P w' = .ok news.length w' ∧ (Builtin.firstCells k news.length v).run P w' = .ok arr w' ∧ arr.size = news.length * k ∧ RowsIn w' (UU w0 S hp w' m) k news arr ∧ ∀ y ∈ arr.toList, y.oneCell' = true := by
  intro R hr
  have h1 : Rep w' R (UU w0 S hp w' m) v (.sl news) := hr.mono (Keeps.of_block fun b _ hb => hw b hb) (Keeps.of_block fun b _ hb => hw b hb) (fun _ h => h) (fun b h => ⟨⟨Nat.lt_of_lt_of_le h.1.1 on.size, h.1.2⟩, h.2.imp id fun h' => ⟨h'.1, h'.2.of_block (hw b h.1.1)⟩⟩)
  exact slice_src h1 hk h0
 unfold srcRows at h
 split at h
 · rename_i b str
   cases h
   obtain ⟨e1, _⟩ := hv.scv
   subst e1
   obtain ⟨a1, arr, a2, a3, a4, a5⟩ := str_src (P := P) (w := w') (U := UU w0 S hp w' m) str
   by_cases hz : (str.data.toList.map fun (c : UInt8) => [PV.sc (.int .u8 c.toNat)]).length = 0
   · have hnil := List.eq_nil_of_length_eq_zero hz
     refine ⟨arr, a1, a2 k, by rw [a3, hz]; simp, ⟨hk, fun i r j p hi _ => ?_⟩, a5⟩
     rw [hnil] at hi
     simp at hi
   · have h8 : 0 < (str.data.toList.map fun (c : UInt8) => [PV.sc (.int .u8 c.toNat)]).length := by omega
     have hk1 : k = 1 := by
      rw [← hk _ (List.getElem_mem h8), a4.1 _ (List.getElem_mem h8)]
     subst hk1
     exact ⟨arr, a1, a2 1, a3, a4, a5⟩
 · unfold rowsOf at h
   split at h
   · cases h; cases hv; exact fin (R := fun _ => True) .nil
   · cases h; exact fin hv.pvv
   · rename_i o off len
     split at h
     · rename_i st e k' rows hl
       obtain ⟨h1, h2, h3⟩ := sub_some h
       subst h2
       exact fin (row_rep M hl hv (fun _ => True) (fun _ _ _ _ => trivial) h1)
     · cases h
   · cases h
 · cases h
include hT I
theorem m_append {args : Array Operand} {ts : Array TypeId} {o : Oper} {d : Nat} (ho : o.op = .call { callee := .builtin .append, args := args, argTypes := ts }) {r : TV} {hp' : Hp}
    (h : memOp C s d (.call { callee := .builtin .append, args := args, argTypes := ts }) = some (r, hp')) : MOk C w0 own0 S s.hp a w m o r hp' := by
 simp only [memOp] at h
 split at h
 · rename_i x y t t' ea et
   have e1 : args = #[x, y] := by rw [← Array.toArray_toList (xs := args), ea]
   have e2 : ts = #[t, t'] := by rw [← Array.toArray_toList (xs := ts), et]
   subst e1
   subst e2
   split at h
   · rename_i size bytes e zero ti' dst src h1 h2 h3 h4
     split at h
     · rename_i ei he
       split at h
       · rename_i rr htr
         cases h
         split at htr
         rotate_left
         · cases htr
         rename_i e'' hkk
         have hti := hT _ _ h1
         have hti' := hT _ _ h2
         have hei := hT _ _ he
         obtain ⟨dd, hd1, hd2⟩ := hti'.desc
         have hd3 : (∃ e', dd = .slice e') ∨ dd = .string := by
          rw [hkk] at hd2
          left; cases dd <;> simp [dOk] at hd2; exact ⟨_, rfl⟩
         have e0 : (execOp a.eval o).run C.P w = (do pure (Next.value (← Builtin.append_ #[t, t'] o.type #[a.eval x, a.eval y])) : Sem Next).run C.P w := by
          simp only [execOp, ho, resolve, invoke, builtin, Sem.run_bind, Sem.run_pure, Result.andThen_ok, List.map_toArray, List.map_cons, List.map_nil]
         unfold treeApp at htr
         split at htr
         rotate_left
         · cases htr
         split at htr
         rotate_left
         · cases htr
         rename_i o2 st2 news ha
         split at htr
         rotate_left
         · cases htr
         rename_i hc
         obtain ⟨c0, c1, c2, c3⟩ := hc
         split at htr
         · rename_i hdst
           split at htr
           rotate_left
           · cases htr
           rename_i hc2
           obtain ⟨c4, c5⟩ := hc2
           split at htr
           rotate_left
           · cases htr
           rename_i hp1 hadd
           cases htr
           have hv := I.ev h3
           have hx : a.eval x = .slice none 0 0 := by
            have : ∀ v, RepT w m (RR s.hp w m) (UU w0 S s.hp w m) v .nl → v = .slice none 0 0 := fun v hv => by cases hv; rfl
            exact this _ hv
           obtain ⟨v, w', m', q1, q2, q3, q4⟩ := append_tree_nil (P := C.P) I.mem hti rfl hd1 hd3 hei o.type (x := a.eval y) (I.ev h4) ha c0 c1 c2 c3 c4 c5 hadd
           refine ⟨.value v, v, w', m', ?_, .inl rfl, q2, q3, q4⟩
           rw [e0, hx]
           exact vrun q1
         · split at htr
           rotate_left
           · cases htr
           rename_i o1 st1 rows1 hau
           split at htr
           rotate_left
           · cases htr
           rename_i hc2
           obtain ⟨c4, c5, c6, c7, c8⟩ := hc2
           split at htr
           rotate_left
           · cases htr
           rename_i hp1 hadd
           cases htr
           obtain ⟨v, w', m', q1, q2, q3, q4⟩ := append_tree_row (P := C.P) I.mem hti rfl hd1 hd3 hei o.type (u := a.eval x) (x := a.eval y) (I.ev h3) (I.ev h4) hau ha c4 c5 c0 c1 c2 c6 c3 c7 c8 hadd
           refine ⟨.value v, v, w', m', ?_, .inl rfl, q2, q3, q4⟩
           rw [e0]
           exact vrun q1
       rename_i hnotree
       clear hnotree
       split at h
       · rename_i news hnews
         split at h
         · rename_i hrows
           have hti := hT _ _ h1
           have hti' := hT _ _ h2
           have hei := hT _ _ he
           have hsrc : srcRows s.hp ti'.kind src = some news := by
            rw [← hnews]
            unfold srcRows
            rfl
           obtain ⟨dd, hd1, hd2⟩ := hti'.desc
           have hd3 : (∃ e', dd = .slice e') ∨ dd = .string := by
            unfold srcRows at hsrc
            split at hsrc
            · rename_i hkk
              rw [hkk] at hd2
              right; cases dd <;> simp [dOk] at hd2; rfl
            · rename_i hkk
              rw [hkk] at hd2
              left; cases dd <;> simp [dOk] at hd2; exact ⟨_, rfl⟩
            · cases hsrc
           have e0 : (execOp a.eval o).run C.P w = (do pure (Next.value (← Builtin.append_ #[t, t'] o.type #[a.eval x, a.eval y])) : Sem Next).run C.P w := by
            simp only [execOp, ho, resolve, invoke, builtin, Sem.run_bind, Sem.run_pure, Result.andThen_ok, List.map_toArray, List.map_cons, List.map_nil]
           split at h
           · -- onto nothing
             rename_i hdst
             split at h
             · rename_i hc
               obtain ⟨c1, c2, c3⟩ := hc
               split at h
               · rename_i hp1 hadd
                 cases h
                 have hv := I.ev h3
                 have hx : a.eval x = .slice none 0 0 := by
                  have : ∀ v, RepT w m (RR s.hp w m) (UU w0 S s.hp w m) v .nl → v = .slice none 0 0 := fun v hv => by cases hv; rfl
                  exact this _ hv
                 obtain ⟨v, w', m', q1, q2, q3, q4⟩ := append_nil_ok (P := C.P) I.mem hti rfl hd1 hd3 hei o.type (x := a.eval y) c2 c1 c3 hadd (fun w' on hw => src_ok I.mem (I.ev h4) hsrc hrows c2 w' on hw)
                 refine ⟨.value v, v, w', m', ?_, .inl rfl, q2, q3, q4⟩
                 rw [e0, hx]
                 exact vrun q1
               · cases h
             · cases h
           · -- onto a row
             rename_i o' off len
             split at h
             · rename_i st e' k rows hl
               split at h
               · rename_i hlt
                 split at h
                 · rename_i hc
                   obtain ⟨c1, c2, c3, c4, c5⟩ := hc
                   cases h
                   obtain ⟨v, w', q1, q2, q3, q4⟩ := append_here_ok (P := C.P) I.mem hti rfl hd1 hd3 hei o.type (x := a.eval y) hl c1 c3 (I.ev h3) hlt c5 (fun w' on hw => src_ok I.mem (I.ev h4) hsrc hrows c4 w' on hw)
                   refine ⟨.value v, v, w', m, ?_, .inl rfl, q2, q3, q4⟩
                   rw [e0]
                   exact vrun q1
                 · cases h
               split at h
               · rename_i hc
                 obtain ⟨c1, c2, c3, c4, c5, c6⟩ := hc
                 subst c2
                 subst c3
                 split at h
                 · rename_i old hold
                   split at h
                   · rename_i hp1 hadd
                     cases h
                     obtain ⟨v, w', m', q1, q2, q3, q4⟩ := append_row_ok (P := C.P) I.mem hti rfl hd1 hd3 hei o.type (x := a.eval y) hl c1 (I.ev h3) hold c5 c4 c6 hadd (fun w' on hw => src_ok I.mem (I.ev h4) hsrc hrows c5 w' on hw)
                     refine ⟨.value v, v, w', m', ?_, .inl rfl, q2, q3, q4⟩
                     rw [e0]
                     exact vrun q1
                   · cases h
                 · cases h
               · cases h
             · cases h
           · cases h
         · cases h
       · cases h
     · cases h
   · cases h
 · cases h
theorem m_clear {args : Array Operand} {ts : Array TypeId} {o : Oper} {d : Nat} (ho : o.op = .call { callee := .builtin .clear, args := args, argTypes := ts }) {r : TV} {hp' : Hp}
    (h : memOp C s d (.call { callee := .builtin .clear, args := args, argTypes := ts }) = some (r, hp')) : MOk C w0 own0 S s.hp a w m o r hp' := by
 simp only [memOp] at h
 split at h
 · rename_i x t ea et
   have e1 : args = #[x] := by rw [← Array.toArray_toList (xs := args), ea]
   have e2 : ts = #[t] := by rw [← Array.toArray_toList (xs := ts), et]
   subst e1
   subst e2
   split at h
   · rename_i size bytes e zero o' off len h1 h2
     split at h
     · rename_i ei st e' k rows he hl
       split at h
       · rename_i z hz
         split at h
         · rename_i hc
           obtain ⟨c1, c2, c3, c4⟩ := hc
           subst c2
           cases h
           have hti := hT _ _ h1
           have hei := hT _ _ he
           obtain ⟨dd, hd1, hd2⟩ := hti.desc
           have hdd : dd = .slice e := by cases dd <;> simp [dOk] at hd2; rw [hd2]
           subst hdd
           have e0 : (execOp a.eval o).run C.P w = (do pure (Next.value (← Builtin.clear_ #[t] o.type #[a.eval x])) : Sem Next).run C.P w := by
            simp only [execOp, ho, resolve, invoke, builtin, Sem.run_bind, Sem.run_pure, Result.andThen_ok, List.map_toArray, List.map_cons, List.map_nil]
           have hv := I.ev h2
           generalize a.eval x = v at e0 hv
           have hob := I.mem.obs o' _ hl
           cases hv with
           | @ref _ _ _ c k A A' hm hoc hA =>
            rw [hm] at hob
            cases hob with
            | row k1 k2 k3 k4 k5 =>
             obtain ⟨zv, z1, z2, z3⟩ := hei.zero w
             obtain ⟨y1, y2⟩ := zeroRow_ok z3 hz
             by_cases hl0 : len = 0
             · subst hl0
               have hsp : splice rows off (List.replicate 0 z) = rows := by simp [splice]
               rw [hsp]
               have hput : put s.hp o' (.row st e' ei.size rows) = put s.hp o' (.row st e' ei.size rows) := rfl
               have hbl : ∀ b, Blk (m o') (.row st e' ei.size rows) b → Blk (m o') (.row st e' ei.size rows) b := fun _ h => h
               have hke : ∀ b, b < w.heap.size → ¬ Blk (m o') (.row st e' ei.size rows) b → w.heap[b]? = w.heap[b]? := fun _ _ _ => rfl
               have g := Goes.put I.mem (On.refl w) hl hbl hke
               refine ⟨.value (.tuple #[]), _, w, m, ?_, .inl rfl, I.mem.put (On.refl w) hl hbl hke (fun b h hb => I.mem.nio o' _ b hl h hb) ?_, g, .tu rfl (fun j t hj => by simp at hj)⟩
               · rw [e0]
                 cases A' <;> simp [Builtin.clear_, run_underlying hd1]
               · have := I.mem.obs o' _ hl
                 exact g.ob this (fun _ _ => rfl)
             · cases A with
               | none => have := k3 rfl; omega
               | some ad =>
                obtain ⟨hs, hf, cells, hc, hsz, hrep⟩ := k5 ad rfl
                obtain ⟨bl, of_, sp⟩ := ad
                simp only at hs
                subst hs
                have hA1 : A' = some ⟨bl, of_ + off * ei.size, none⟩ := by
                 rcases hA with h | h
                 · simpa [Addr.add_lit] using h
                 · omega
                subst hA1
                let arr := Builtin.zeroCells zv.cells len
                have harr : arr.size = (List.replicate len z).length * ei.size := by simp [arr, Builtin.zeroCells, z2]
                have hget : ∀ i j, i < len → j < ei.size → arr.getD (i * ei.size + j) undef = zv.cells.getD j undef := by
                 intro i j hi hj
                 have hlt : i * ei.size + j < len * ei.size := by
                  have := Nat.mul_le_mul_right ei.size (show i + 1 ≤ len from hi)
                  rw [Nat.add_mul, Nat.one_mul] at this
                  omega
                 have hjz : j < zv.cells.size := by omega
                 have hmod : (i * ei.size + j) % zv.cells.size = j := by rw [z2, Nat.mul_add_mod_self_right]; exact Nat.mod_eq_of_lt hj
                 simp [arr, Builtin.zeroCells, Array.getD_eq_getD_getElem?, z2, hlt, hjz]
                 simp [Nat.mod_eq_of_lt hj, hjz]
                have hin : RowsIn w (UU w0 S s.hp w m) ei.size (List.replicate len z) arr := by
                 refine ⟨fun r hr => by rw [List.eq_of_mem_replicate hr]; exact c3, fun i r j p hi hj => ?_⟩
                 obtain ⟨h8, h9⟩ := List.getElem?_eq_some_iff.1 hi
                 have hil : i < len := by simpa using h8
                 have hrz : r = z := by rw [← h9]; simp
                 subst hrz
                 have hjl : j < ei.size := by rw [← c3]; exact (List.getElem?_eq_some_iff.1 hj).1
                 rw [hget i j hil hjl]
                 exact y2 j p hj _ _ _
                have h1c : ∀ y ∈ arr.toList, y.oneCell' = true := by
                 intro y hy
                 obtain ⟨i, hi, rfl⟩ := List.getElem_of_mem hy
                 have hi' : i < len * ei.size := by simpa [arr, Builtin.zeroCells, z2] using hi
                 have hq : i / ei.size < len := Nat.div_lt_of_lt_mul (by rwa [Nat.mul_comm] at hi')
                 have hr : i % ei.size < ei.size := Nat.mod_lt _ k2
                 have := hget (i / ei.size) (i % ei.size) hq hr
                 rw [Nat.div_add_mod'] at this
                 have hz : z[i % ei.size]? = some (z[i % ei.size]'(by omega)) := List.getElem?_eq_getElem _
                 have hrp := y2 _ _ hz w (fun _ => True) (fun _ => True)
                 rw [← this] at hrp
                 have hil : i < arr.size := by simpa using hi
                 rw [Array.getD_eq_getD_getElem?, Array.getElem?_eq_getElem hil] at hrp
                 simpa using hrp.oneCell
                obtain ⟨M', g⟩ := row_set_ok I.mem hl c1 hm (by simpa using c4) harr hin
                have hlenarr : arr.toList.length = len * ei.size := by simpa using harr
                have hcap : (off + len) * ei.size ≤ c * ei.size := Nat.mul_le_mul_right _ (by omega)
                rw [Nat.add_mul] at hcap
                dsimp only at hsz
                have hstore := run_storeCells_cells (P := C.P) bl (of_ + off * ei.size) arr.toList 0 w (fun j hj => hc.isSome (by omega)) (fun j hj => hc.frz (by omega)) h1c
                simp only [Nat.add_zero] at hstore
                refine ⟨.value (.tuple #[]), _, _, m, ?_, .inl rfl, M', g, .tu rfl (fun j t hj => by simp at hj)⟩
                rw [e0]
                obtain ⟨l', rfl⟩ : ∃ l', len = l' + 1 := ⟨len - 1, by omega⟩
                have hstore' : (storeCells ⟨bl, of_ + off * ei.size, none⟩ (Builtin.zeroCells zv.cells (l' + 1)).toList).run C.P w = .ok () (w.setCells bl (of_ + off * ei.size) arr.toList) := hstore
                simp [Builtin.clear_, run_underlying hd1, z1, hstore']
         · cases h
       · cases h
     · cases h
   · cases h
 · cases h
theorem m_convert {src dst : Nat} {x : Operand} {o : Oper} {d : Nat} (ho : o.op = .convert src dst x) {r : TV} {hp' : Hp} (h : memOp C s d (.convert src dst x) = some (r, hp')) : MOk C w0 own0 S s.hp a w m o r hp' := by
 simp only [memOp] at h
 split at h
 · rename_i sb bb zb si bi e zi b str h1 h2 h3
   split at h
   · rename_i eb ez he
     split at h
     · rename_i hp1 hadd0
       cases h
       have hwd : wideT e = false := by
        by_cases hw : wideT e = false
        · exact hw
        · rw [if_neg hw] at hadd0; cases hadd0
       have hadd : add s.hp (nid d 0) (.row .own e 1 (str.data.toList.map fun (c : UInt8) => [PV.sc (.int .u8 c.toNat)])) = some hp' := by rw [if_pos hwd] at hadd0; exact hadd0
       obtain ⟨e1, _⟩ := (I.ev h3).scv
       obtain ⟨dd, hd1, hd2⟩ := (hT _ _ h1).desc
       have hdd : dd = .string := by cases dd <;> simp [dOk] at hd2; rfl
       subst hdd
       obtain ⟨d', hd1', hd2'⟩ := (hT _ _ h2).desc
       have hdd' : d' = .slice e := by cases d' <;> simp [dOk] at hd2'; rw [hd2']
       subst hdd'
       obtain ⟨d3, hd3, hd4⟩ := (hT _ _ he).desc
       have hdd3 : d3 = .int .u8 := by cases d3 <;> simp [dOk] at hd4; rw [hd4]
       subst hdd3
       obtain ⟨h16, hid, rfl⟩ := add_some hadd
       have hle := grownCap_ge w str.size 0 e
       generalize hG : grownCap w str.size 0 e = G at hle
       have hrun := run_bytes_of_string (P := C.P) w src dst e str hd1 hd1' hd3
       rw [hG] at hrun
       have hcells : Cells (w.drew.alloc (.cells (bytesRow str G) e ((bytesRow str G).size, (bytesRow str G).size + 1))) w.heap.size e (bytesRow str G) := by
        refine ⟨((bytesRow str G).size, (bytesRow str G).size + 1), heap_alloc_new w.drew _, ⟨by simp, fun h => absurd (h.symm.trans hwd) (by decide)⟩, fun off ho => ?_⟩
        have := heap_alloc_new w.drew (.cells (bytesRow str G) e ((bytesRow str G).size, (bytesRow str G).size + 1))
        rw [show w.drew.heap.size = w.heap.size from rfl] at this
        simp only [World.frozen?, this]
        simp
        omega
       have hsz : (bytesRow str G).size = G := by
        have : str.data.size = str.size := rfl
        simp [bytesRow]
        omega
       have hlen : (str.data.toList.map fun (c : UInt8) => [PV.sc (.int .u8 c.toNat)]).length = str.size := by
        have : str.data.size = str.size := rfl
        simp [this]
       obtain ⟨M, g⟩ := row_ok (w' := w.drew.alloc (.cells (bytesRow str G) e ((bytesRow str G).size, (bytesRow str G).size + 1))) (c := G) (e := e) (k := 1) (st := .own) (rows := str.data.toList.map fun (c : UInt8) => [PV.sc (.int .u8 c.toNat)]) I.mem (by simp) h16 hid
        (On.trans (b := w.drew) ⟨rfl, rfl, rfl, Nat.le_refl _, fun _ => Nat.le_succ _⟩ (On.alloc w.drew _)) (fun b hb => alloc_old w.drew _ b hb) hcells (by omega) (by omega) (by omega)
        (fun r hr => by
         obtain ⟨c, _, rfl⟩ := List.mem_map.1 hr
         rfl) (fun i r j p hi hj => by
         have hil := (List.getElem?_eq_some_iff.1 hi).1
         rw [hlen] at hil
         have hid : i < str.data.toList.length := by simpa using hil
         have e3 : (str.data.toList.map fun (c : UInt8) => [PV.sc (.int .u8 c.toNat)])[i]? = some [PV.sc (.int .u8 (str.data.toList[i]).toNat)] := by rw [List.getElem?_map, List.getElem?_eq_getElem hid]; rfl
         rw [e3] at hi
         cases hi
         have hj0 : j = 0 := by
          have := (List.getElem?_eq_some_iff.1 hj).1
          simpa using this
         subst hj0
         cases hj
         have e4 : (bytesRow str G).getD (i * 1 + 0) undef = .int .u8 (str.data.toList[i]).toNat := by
          unfold bytesRow
          have h9 : i < str.data.size := by simpa using hid
          rw [Nat.mul_one, Nat.add_zero, Array.getD_eq_getD_getElem?, Array.getElem?_append_left (by simpa using h9)]
          rw [Array.getElem?_map, Array.getElem?_eq_getElem h9]
          simp
         rw [e4]
         exact .sc rfl)
       refine ⟨.value (.slice (some ⟨w.heap.size, 0, none⟩) str.size G), _, _, _, ?_, .inl rfl, M, g, ?_⟩
       · simp only [execOp, ho, e1]
         exact vrun hrun
       · have := RepT.ref (w := w.drew.alloc (.cells (bytesRow str G) e ((bytesRow str G).size, (bytesRow str G).size + 1))) (R := RR (put s.hp (nid d 0) (.row .own e 1 (str.data.toList.map fun (c : UInt8) => [PV.sc (.int .u8 c.toNat)]))) (w.drew.alloc (.cells (bytesRow str G) e ((bytesRow str G).size, (bytesRow str G).size + 1))) (upd m (nid d 0) (.row (some ⟨w.heap.size, 0, none⟩) G 1)))
           (U := UU w0 S (put s.hp (nid d 0) (.row .own e 1 (str.data.toList.map fun (c : UInt8) => [PV.sc (.int .u8 c.toNat)]))) (w.drew.alloc (.cells (bytesRow str G) e ((bytesRow str G).size, (bytesRow str G).size + 1))) (upd m (nid d 0) (.row (some ⟨w.heap.size, 0, none⟩) G 1)))
           (m := upd m (nid d 0) (.row (some ⟨w.heap.size, 0, none⟩) G 1)) (o := nid d 0) (off := 0) (len := str.size) (c := G) (k := 1) (A := some ⟨w.heap.size, 0, none⟩) (A' := some ⟨w.heap.size, 0, none⟩) (upd_same m _ _) (by omega) (.inl (by simp [Addr.add]))
         simpa using this
     · cases h
   · cases h
 · rename_i sz2 s1 s2 e zb o' off len h1 h2 h3
   split at h
   · rename_i ez bz zz st ee kk rows he hl
     split at h
     · rename_i hc
       obtain ⟨c1, c2, c3, c4⟩ := hc
       cases h
       subst c1
       obtain ⟨d', hd1', hd2'⟩ := (hT _ _ h2).desc
       have hdd' : d' = .slice e := by cases d' <;> simp [dOk] at hd2'; rw [hd2']
       subst hdd'
       obtain ⟨d3, hd3, hd4⟩ := (hT _ _ he).desc
       have hdd3 : d3 = .int .u8 := by cases d3 <;> simp [dOk] at hd4; rw [hd4]
       subst hdd3
       have hv0 := I.ev h3
       have hv := hv0
       generalize hax : a.eval x = v at hv
       have hob := I.mem.obs o' _ hl
       cases hv with
       | @ref _ _ _ c k A A' hm hoc hA =>
        rw [hm] at hob
        cases hob with
        | row k1 k2 k3 k4 k5 =>
         cases A with
         | none => have := k3 rfl; omega
         | some ad =>
          obtain ⟨hs, hf, cells, hc, hsz, hrep⟩ := k5 ad rfl
          have hA1 : A' = some (ad.add (off * kk)) := by
           rcases hA with h | h
           · simpa using h
           · omega
          subst hA1
          obtain ⟨bl, of_, sp⟩ := ad
          simp only at hs
          subst hs
          have hblk : Blk (m o') (.row st ee kk rows) bl := by
           rw [hm]
           cases st with
           | own => rfl
           | io => rfl
           | fz => exact absurd rfl c3
          have hbl : ∀ b, Blk (m o') (.row st ee kk rows) b → Blk (m o') (.row st ee kk rows) b := fun _ h => h
          have hke : ∀ b, b < w.heap.size → ¬ Blk (m o') (.row st ee kk rows) b → (w.freeze ⟨bl, cells.size, none⟩ 1).heap[b]? = w.heap[b]? := fun b _ hb => by
           rw [freeze_heap, if_neg (fun e => hb (by rw [← e]; exact hblk))]
          have g := Goes.put I.mem (mark_on w bl cells.size) hl hbl hke
          refine ⟨.value (.slice (some (Addr.add ⟨bl, of_, none⟩ (off * kk))) len (c - off)), _, _, m, ?_, .inl rfl, ?_, g, ?_⟩
          · simp only [execOp, ho, hax]
            refine vrun ?_
            have hadd : (Addr.add ⟨bl, of_, none⟩ (off * kk)).block = bl := by simp [Addr.add_lit]
            simp [convert, run_underlying hd1', run_underlying hd3, markStringish, hadd, hc.shape]
          · refine I.mem.put (mark_on w bl cells.size) hl hbl hke (fun b h hb => I.mem.nio o' _ b hl h hb) ?_
            rw [hm]
            refine .row k1 k2 k3 k4 (fun ad had => ?_)
            cases had
            exact ⟨rfl, fun hz => absurd hz c3, cells, hc.mark c4, hsz, fun i r j p hi hj => g.rep (hrep i r j p hi hj)⟩
          · have := g.repT hv0
            rw [hax] at this
            exact this
     · cases h
   · cases h
 · cases h
theorem memOp_ok {o : Oper} {d : Nat} {r : TV} {hp' : Hp} (h : memOp C s d o.op = some (r, hp')) : MOk C w0 own0 S s.hp a w m o r hp' := by
 cases ho : o.op with
 | load t x => rw [ho] at h; exact m_load hT I ho h
 | store t x y => rw [ho] at h; exact m_store hT I ho h
 | box t x => rw [ho] at h; exact m_box hT I ho h
 | alloc t => rw [ho] at h; exact m_alloc hT I ho h
 | makeSlice t x y => rw [ho] at h; exact m_make hT I ho h
 | buildSlice t len parts => rw [ho] at h; exact m_buildSlice hT I ho h
 | convert src dst x => rw [ho] at h; exact m_convert hT I ho h
 | call c =>
  rw [ho] at h
  obtain ⟨callee, args, ts⟩ := c
  cases callee with
  | builtin b =>
   cases b with
   | append => exact m_append hT I ho h
   | clear => exact m_clear hT I ho h
   | _ => simp [memOp] at h
  | _ => simp [memOp] at h
 | _ => rw [ho] at h; simp [memOp] at h
end
end Go.Pm
namespace Go.Pm
open Go
theorem pos_lt : ∀ {L : List Nat} {o i : Nat}, pos L o = some i → i < L.length ∧ L[i]? = some o := by
 intro L
 induction L with
 | nil => intro o i h; cases h
 | cons x l ih =>
  intro o i h
  simp only [pos] at h
  split at h
  · rename_i e; cases h; exact ⟨by simp, by simp [e]⟩
  · split at h
    · rename_i q hq
      cases h
      obtain ⟨h1, h2⟩ := ih hq
      exact ⟨by simp; omega, by simpa using h2⟩
    · cases h
theorem pos_inj [Dd] {L : List Nat} {o o' i : Nat} (h : pos L o = some i) (h' : pos L o' = some i) : o = o' := by
 have a := (pos_lt h).2
 have b := (pos_lt h').2
 rw [a] at b
 cases b; rfl
theorem pos_mem : ∀ {L : List Nat} {o : Nat}, o ∈ L → ∃ i, pos L o = some i := by
 intro L
 induction L with
 | nil => intro o h; cases h
 | cons x l ih =>
  intro o h
  simp only [pos]
  by_cases e : o = x
  · exact ⟨0, by simp [e]⟩
  · rw [if_neg e]
    rcases List.mem_cons.1 h with h | h
    · exact absurd h e
    · obtain ⟨i, hi⟩ := ih h
      exact ⟨i + 1, by rw [hi]⟩
theorem pos_of_mem [Dd] {L : List Nat} {o i : Nat} (h : pos L o = some i) : o ∈ L := List.mem_of_getElem? (pos_lt h).2
theorem look_renH [Dd] {f : Nat → Option Nat} {hp : Hp} : ∀ {L : List Nat} {i : Nat} {ob : OB}, look (renH f hp L) i = some ob → ∃ o x, o ∈ L ∧ f o = some i ∧ look hp o = some x ∧ ob = renO f x := by
 intro L
 induction L with
 | nil => intro i ob h; cases h
 | cons o l ih =>
  intro i ob h
  simp only [renH] at h
  split at h
  · rename_i x j h1 h2
    rw [look_put] at h
    split at h
    · rename_i e; subst e; cases h; exact ⟨o, x, by simp, h2, h1, rfl⟩
    · obtain ⟨o', x', a, b⟩ := ih h; exact ⟨o', x', by simp [a], b⟩
  · obtain ⟨o', x', a, b⟩ := ih h; exact ⟨o', x', by simp [a], b⟩
theorem look_renH_some [Dd] {f : Nat → Option Nat} {hp : Hp} : ∀ {L : List Nat} {o i : Nat} {x : OB}, o ∈ L → f o = some i → look hp o = some x → ∃ ob, look (renH f hp L) i = some ob := by
 intro L
 induction L with
 | nil => intro o i x h; cases h
 | cons o l ih =>
  intro o' i x h hf hl
  simp only [renH]
  rcases List.mem_cons.1 h with rfl | h
  · rw [hl, hf]; exact ⟨_, look_put_same _ _ _⟩
  · obtain ⟨ob, hob⟩ := ih h hf hl
    split
    · rw [look_put]
      split
      · exact ⟨_, rfl⟩
      · exact ⟨ob, hob⟩
    · exact ⟨ob, hob⟩
def mren (f : Nat → Option Nat) (m : Mp) (L : List Nat) (i : Nat) : Option CM := match L.find? (fun o => f o == some i) with
 | some o => m o
 | none => none
def Inj (f : Nat → Option Nat) (L : List Nat) : Prop := ∀ o o' i, o ∈ L → o' ∈ L → f o = some i → f o' = some i → o = o'
theorem mren_eq {f : Nat → Option Nat} {m : Mp} {L : List Nat} {o i : Nat} (hj : Inj f L) (ho : o ∈ L) (hf : f o = some i) : mren f m L i = m o := by
 unfold mren
 cases h : L.find? (fun o => f o == some i) with
 | none =>
  have := List.find?_eq_none.1 h o ho
  simp [hf] at this
 | some q =>
  have h1 := List.find?_some h
  have h2 := List.mem_of_find?_eq_some h
  simp at h1
  rw [hj q o i h2 ho h1 hf]
theorem Blk_ren (f : Nat → Option Nat) (c : Option CM) (ob : OB) : Blk c (renO f ob) = Blk c ob := by
 cases ob <;> simp only [renO]
 cases c with
 | none => rfl
 | some c => cases c <;> rfl
theorem renL_length (f : Nat → Option Nat) : ∀ l : List TV, (ren.renL f l).length = l.length
 | [] => rfl
 | t :: l => by simp [ren.renL, renL_length f l]
theorem renL_get (f : Nat → Option Nat) : ∀ (l : List TV) (j : Nat), (ren.renL f l)[j]? = (l[j]?).map (ren f)
 | [], j => by simp [ren.renL]
 | t :: l, 0 => by simp [ren.renL]
 | t :: l, j + 1 => by simp [ren.renL, renL_get f l j]
theorem ren_isCell (f : Nat → Option Nat) (t : TV) (h : t.isCell = true) : (ren f t).isCell = true := by
 cases t <;> simp [TV.isCell] at h
 all_goals simp only [ren] <;> first | rfl | (split <;> rfl)
theorem renL_isCell [Dd] (f : Nat → Option Nat) {l : List TV} (h : ∀ t ∈ l, t.isCell = true) : ∀ t ∈ ren.renL f l, t.isCell = true := by
 intro t ht
 obtain ⟨j, hj⟩ := List.getElem?_of_mem ht
 rw [renL_get] at hj
 cases hl : l[j]? with
 | none => rw [hl] at hj; cases hj
 | some x => rw [hl] at hj; cases hj; exact ren_isCell f x (h x (List.mem_of_getElem? hl))
theorem RepT.ren [Dd] {w : World} {m m' : Mp} {R U R' U' : Nat → Prop} {f : Nat → Option Nat} (hm : ∀ o i c, f o = some i → m o = some c → m' i = some c) (hR : ∀ b, R b → R' b) (hU : ∀ b, U b → U' b) {v : Value} {t : TV} (h : RepT w m R U v t) : RepT w m' R' U' v (ren f t) := by
 induction h with
 | @pv v b p h => simp only [Pm.ren]; exact .pv (h.weaken (by cases b <;> first | exact hR | exact hU) hU)
 | ud h => exact .ud h
 | nl => exact .nl
 | ag hi hs _ ih => exact .ag (renL_isCell f hi) (by rw [renL_length]; exact hs) (fun j t hj => by
     rw [renL_get] at hj
     cases hl : (_ : List TV)[j]? with
     | none => rw [hl] at hj; cases hj
     | some x => rw [hl] at hj; cases hj; exact ih j x hl)
 | ar hs h => exact .ar hs (fun j p hj => (h j p hj).weaken hU hU)
 | tu hs _ ih => exact .tu (by rw [renL_length]; exact hs) (fun j t hj => by
     rw [renL_get] at hj
     cases hl : (_ : List TV)[j]? with
     | none => rw [hl] at hj; cases hj
     | some x => rw [hl] at hj; cases hj; exact ih j x hl)
 | @ref o off len c k A A' h a b =>
  simp only [Pm.ren]
  split
  · rename_i i hi; exact .ref (hm _ _ _ hi h) a b
  · exact .ud rfl
 | bp h =>
  simp only [Pm.ren]
  split
  · rename_i i hi; exact .bp (hm _ _ _ hi h)
  · exact .ud rfl
 | ep h =>
  simp only [Pm.ren]
  split
  · rename_i i hi; exact .ep (hm _ _ _ hi h)
  · exact .ud rfl
 | nr h a b c =>
  simp only [Pm.ren]
  split
  · rename_i i hi; exact .nr (hm _ _ _ hi h) a b c
  · exact .ud rfl
 | np h a =>
  simp only [Pm.ren]
  split
  · rename_i i hi; exact .np (hm _ _ _ hi h) a
  · exact .ud rfl
 | ap h =>
  simp only [Pm.ren]
  split
  · rename_i i hi; exact .ap (hm _ _ _ hi h)
  · exact .ud rfl
 | @dv v s rows w1 B h k =>
  cases s with
  | none => obtain ⟨rfl, rfl⟩ := h; exact .dv (s := none) (B := R') ⟨rfl, rfl⟩ (k.weaken hR hR)
  | some o =>
   simp only [Pm.ren, renS]
   cases hi : f o with
   | some i => exact .dv (s := some i) (hm _ _ _ hi h) k
   | none => exact .ud k.one
 | @dp s ad cells w1 B u h hs hb hc k =>
  cases s with
  | none => obtain ⟨rfl, rfl⟩ := h; exact .dp (s := none) (B := R') u ⟨rfl, rfl⟩ hs (hR _ hb) hc (fun j p hj => (k j p hj).weaken hR hR)
  | some o =>
   simp only [Pm.ren, renS]
   cases hi : f o with
   | some i => exact .dp (s := some i) u (hm _ _ _ hi h) hs hb hc k
   | none => exact .ud rfl
 | rp u hs hr hc h => exact .rp u hs (hR _ hr) hc (fun j p hj => (h j p hj).weaken hU hU)
 | fn hs _ ih => exact .fn (by rw [renL_length]; exact hs) (fun j t hj => by
     rw [renL_get] at hj
     cases hl : (_ : List TV)[j]? with
     | none => rw [hl] at hj; cases hj
     | some x => rw [hl] at hj; cases hj; exact ih j x hl)
 | mv hs _ ih => exact .mv (by rw [renL_length]; exact hs) (fun j t hj => by
     rw [renL_get] at hj
     cases hl : (_ : List TV)[j]? with
     | none => rw [hl] at hj; cases hj
     | some x => rw [hl] at hj; cases hj; exact ih j x hl)
 | er => exact .er
section
variable {w0 : World} {own0 S : Nat → Prop} {hp : Hp} {w : World} {m : Mp} {f : Nat → Option Nat} {L : List Nat}
theorem own_ren [Dd] (hj : Inj f L) {b : Nat} (h : Own (mren f m L) (renH f hp L) b) : Own m hp b := by
 obtain ⟨i, ob, h1, h2⟩ := h
 obtain ⟨o, x, a1, a2, a3, rfl⟩ := look_renH h1
 rw [mren_eq hj a1 a2, Blk_ren] at h2
 exact ⟨o, x, a3, h2⟩
theorem ren_rr [Dd] (hj : Inj f L) (b : Nat) (h : RR hp w m b) : RR (renH f hp L) w (mren f m L) b := ⟨h.1, fun ho => h.2 (own_ren hj ho)⟩
theorem ren_uu [Dd] (hj : Inj f L) (b : Nat) (h : UU w0 S hp w m b) : UU w0 S (renH f hp L) w (mren f m L) b := ⟨ren_rr hj b h.1, h.2⟩
theorem ren_rep [Dd] (hj : Inj f L) (hd : ∀ o i, f o = some i → o ∈ L) {v : Value} {t : TV} (h : RepT w m (RR hp w m) (UU w0 S hp w m) v t) :
    RepT w (mren f m L) (RR (renH f hp L) w (mren f m L)) (UU w0 S (renH f hp L) w (mren f m L)) v (ren f t) :=
 h.ren (fun o i c h1 h2 => by rw [mren_eq hj (hd o i h1) h1]; exact h2) (ren_rr hj) (ren_uu hj)
theorem Mem.ren [Dd] (M : Mem w0 own0 S hp w m) (hj : Inj f L) (hd : ∀ o i, f o = some i → o ∈ L) : Mem w0 own0 S (renH f hp L) w (mren f m L) where
 fr := M.fr
 dom i h := by
  unfold mren
  cases hf : L.find? (fun o => f o == some i) with
  | none => rfl
  | some q =>
   have h1 := List.find?_some hf
   have h2 := List.mem_of_find?_eq_some hf
   simp at h1
   cases hl : look hp q with
   | none => exact M.dom q hl
   | some x =>
    obtain ⟨ob, hob⟩ := look_renH_some h2 h1 hl
    rw [h] at hob; cases hob
 old b h := M.old b (own_ren hj h)
 sep i i' ob ob' b h1 h2 h3 h4 := by
  obtain ⟨o, x, a1, a2, a3, rfl⟩ := look_renH h1
  obtain ⟨o', x', b1, b2, b3, rfl⟩ := look_renH h2
  rw [mren_eq hj a1 a2, Blk_ren] at h3
  rw [mren_eq hj b1 b2, Blk_ren] at h4
  have := M.sep o o' x x' b a3 b3 h3 h4
  subst this
  rw [a2] at b2
  cases b2; rfl
 nio i ob b h1 hmi h2 := by
  obtain ⟨o, x, a1, a2, a3, rfl⟩ := look_renH h1
  rw [mren_eq hj a1 a2, Blk_ren] at h2
  exact M.nio o x b a3 (by cases x <;> first | exact hmi | cases hmi) h2
 sown := M.sown
 own0lt := M.own0lt
 obs i ob h := by
  obtain ⟨o, x, a1, a2, a3, rfl⟩ := look_renH h
  rw [mren_eq hj a1 a2]
  have h0 := M.obs o x a3
  generalize m o = cm at h0 ⊢
  cases h0 with
  | box hi hc hs ht => exact .box (renL_isCell f hi) hc (by rw [renL_length]; exact hs) (fun j t hj' => by
      rw [renL_get] at hj'
      cases hl : (_ : List TV)[j]? with
      | none => rw [hl] at hj'; cases hj'
      | some y => rw [hl] at hj'; cases hj'; exact ren_rep hj hd (ht j y hl))
  | arr hc hs ht => exact .arr hc hs (fun j p hj' => (ht j p hj').weaken (ren_uu hj) (ren_uu hj))
  | row h1 h2 h3 h4 h5 =>
   refine .row h1 h2 h3 h4 (fun ad hA => ?_)
   obtain ⟨hs, hf, cells, hc, hsz, hr⟩ := h5 ad hA
   exact ⟨hs, fun hz => ren_uu hj _ (hf hz), cells, hc, hsz, fun i r j p hi hj' => (hr i r j p hi hj').weaken (ren_uu hj) (ren_uu hj)⟩
  | tree h1 h2 h3 h4 => exact .tree h1 h2 h3 h4
  | dat hd' => exact .dat hd'
  | dead => exact .dead
end
theorem names_mem [Dd] {L : List Nat} {o i : Nat} (h : names L o = some i) : o ∈ L := by
 unfold names at h
 split at h
 · rename_i q hq; exact pos_of_mem hq
 · cases h
theorem names_inj [Dd] (L : List Nat) : Inj (names L) L := by
 intro o o' i _ _ h h'
 unfold names at h h'
 split at h
 · rename_i q hq
   split at h'
   · rename_i q' hq'
     cases h
     simp only [Option.some.injEq, cid] at h'
     have hcases : o < 16 ∨ ¬ o < 16 := by omega
     have hcases' : o' < 16 ∨ ¬ o' < 16 := by omega
     rcases hcases with c | c <;> rcases hcases' with c' | c'
     · rw [if_pos c, if_pos c'] at h'; exact h'.symm
     · rw [if_pos c, if_neg c'] at h'; omega
     · rw [if_neg c, if_pos c'] at h'; omega
     · rw [if_neg c, if_neg c'] at h'
       have : q = q' := by omega
       subst this
       exact pos_inj hq hq'
   · cases h'
 · cases h
theorem look_renT (f : Nat → Option Nat) : ∀ (l : List (Nat × TV)) (i : Nat), look (renT f l) i = (look l i).map (ren f)
 | [], i => rfl
 | (j, t) :: l, i => by
  simp only [renT, look]
  split
  · rfl
  · exact look_renT f l i
theorem look_keepT (D : List Nat) : ∀ (l : List (Nat × TV)) (i : Nat) (t : TV), look (keepT D l) i = some t → D.contains i = true ∧ ∃ t', look l i = some t'
 | [], i, t, h => by cases h
 | (j, x) :: l, i, t, h => by
  simp only [keepT] at h
  split at h
  · rename_i hD
    simp only [look] at h ⊢
    split at h
    · rename_i e; rw [if_pos e, e]; exact ⟨hD, _, rfl⟩
    · rename_i e; rw [if_neg e]; exact look_keepT D l i t h
  · rename_i hD
    obtain ⟨a, b⟩ := look_keepT D l i t h
    simp only [look]
    refine ⟨a, ?_⟩
    split
    · exact ⟨_, rfl⟩
    · exact b
theorem look_keepT_eq (D : List Nat) : ∀ (l : List (Nat × TV)) (i : Nat), D.contains i = true → look (keepT D l) i = look l i
 | [], i, _ => rfl
 | (j, x) :: l, i, h => by
  simp only [keepT, look]
  split
  · simp only [look]
    split
    · rfl
    · exact look_keepT_eq D l i h
  · rename_i hD
    rw [if_neg (fun e => hD (by rw [← e]; exact h))]
    exact look_keepT_eq D l i h
end Go.Pm
namespace Go.Pm
open Go
theorem viewP_get {hp : Hp} {ex : List Nat} : ∀ {cs : List TV} {n : Nat} {l : List TV}, viewP hp ex n cs = some l → l.length = cs.length ∧ ∀ (j : Nat) (t : TV), l[j]? = some t → ∃ (t0 : TV) (n' : Nat), n' < n ∧ cs[j]? = some t0 ∧ view hp ex n' t0 = some t ∧ t.isCell = true := by
 intro cs
 induction cs with
 | nil =>
  intro n l h
  cases n with
  | zero => simp [viewP] at h
  | succ n => simp [viewP] at h; subst h; exact ⟨rfl, fun j t h => by simp at h⟩
 | cons c cs ih =>
  intro n l h
  cases n with
  | zero => simp [viewP] at h
  | succ n =>
   simp only [viewP] at h
   split at h
   · rename_i b p hv
     split at h
     · cases h
     · rename_i xs hx
       cases h
       obtain ⟨h1, h2⟩ := ih hx
       refine ⟨by simp [h1], fun j t hj => ?_⟩
       cases j with
       | zero => simp at hj; exact ⟨c, n, by omega, by simp, by rw [hv, hj], by rw [← hj]; rfl⟩
       | succ j =>
        obtain ⟨t0, n', a1, a2, a3⟩ := h2 j t (by simpa using hj)
        exact ⟨t0, n', by omega, by simpa using a2, a3⟩
   · rename_i o rows hv
     split at h
     · cases h
     · rename_i xs hx
       cases h
       obtain ⟨h1, h2⟩ := ih hx
       refine ⟨by simp [h1], fun j t hj => ?_⟩
       cases j with
       | zero => simp at hj; exact ⟨c, n, by omega, by simp, by rw [hv, hj], by rw [← hj]; rfl⟩
       | succ j =>
        obtain ⟨t0, n', a1, a2, a3⟩ := h2 j t (by simpa using hj)
        exact ⟨t0, n', by omega, by simpa using a2, a3⟩
   · cases h
theorem dataOf_get : ∀ {l : List TV} {ps : List PV}, dataOf l = some ps → ps.length = l.length ∧ ∀ (j : Nat) (p : PV), ps[j]? = some p → ∃ (b : Bool), l[j]? = some (TV.pv b p) := by
 intro l
 induction l with
 | nil => intro ps h; cases h; exact ⟨rfl, fun j p h => by simp at h⟩
 | cons t l ih =>
  intro ps h
  cases t with
  | pv b q =>
   simp only [dataOf] at h
   split at h
   · rename_i qs hq
     cases h
     obtain ⟨h1, h2⟩ := ih hq
     refine ⟨by simp [h1], fun j p hj => ?_⟩
     cases j with
     | zero => simp at hj; exact ⟨b, by simp [hj]⟩
     | succ j => obtain ⟨b', h3⟩ := h2 j p (by simpa using hj); exact ⟨b', by simpa using h3⟩
   · cases h
  | _ => simp [dataOf] at h
section
variable {w0 : World} {own0 S : Nat → Prop} {hp : Hp} {w : World} {m : Mp} {rs : List Nat}
theorem view_ok [Dd] (M : Mem w0 own0 S hp w m) {mc : Mp} {Rc Uc : Nat → Prop} (hR : ∀ b, RR hp w m b → Rc b) (hU : ∀ b, UU w0 S hp w m b → Uc b) (hUR : ∀ b, Uc b → Rc b)
    (hO : ∀ o ob b, look hp o = some ob → ¬ rs.contains o = true → Blk (m o) ob b → Rc b) :
    ∀ (n : Nat) {v : Value} {t t' : TV}, RepT w m (RR hp w m) (UU w0 S hp w m) v t → view hp rs n t = some t' → RepT w mc Rc Uc v t' := by
 have hP : ∀ {b : Bool} {v : Value} {p : PV}, Rep w (bif b then Rc else Uc) Uc v p → Rep w Rc Uc v p := by
  intro b v p h
  cases b
  · exact h.weaken hUR (fun _ h => h)
  · exact h
 intro n
 induction n using Nat.strongRecOn with
 | ind n ih =>
 intro v t t' hv h
 have many : ∀ {cs : List TV} {arr : Nat → Value} {k : Nat} {l : List TV}, k ≤ n → (∀ (j : Nat) (t : TV), cs[j]? = some t → RepT w m (RR hp w m) (UU w0 S hp w m) (arr j) t) → viewP hp rs k cs = some l → ∀ (j : Nat) (t : TV), l[j]? = some t → RepT w mc Rc Uc (arr j) t := by
  intro cs arr k l hk ha hl j t hj
  obtain ⟨t0, n', a1, a2, a3, _⟩ := (viewP_get hl).2 j t hj
  exact ih n' (by omega) (ha j t0 a2) a3
 cases n with
 | zero => simp [view] at h
 | succ n =>
 cases hv with
 | @pv v b p hp' =>
  simp only [view] at h
  cases h
  exact .pv (hp'.weaken (by cases b <;> first | exact hR | exact hU) hU)
 | ud => simp [view] at h
 | nl => simp only [view] at h; cases h; exact .pv .nil
 | @ag arr cs hi hs ht =>
  simp only [view] at h
  split at h
  · rename_i l hl
    cases h
    obtain ⟨h1, h2⟩ := viewP_get hl
    refine .ag (fun t ht' => ?_) (by rw [h1]; exact hs) (fun j t hj => many (k := n) (by omega) (arr := fun j => arr.getD j undef) ht hl j t hj)
    obtain ⟨j, hj⟩ := List.getElem?_of_mem ht'
    obtain ⟨_, _, _, _, _, h⟩ := h2 j t hj
    exact h
  · cases h
 | @ar arr ps hs ht =>
  simp only [view] at h
  cases h
  exact .ar hs (fun j p hj => (ht j p hj).weaken hU hU)
 | tu => simp [view] at h
 | er => simp [view] at h
 | mv => simp [view] at h
 | @nr o off len c k π A A' g hm hg hoc hA =>
  simp only [view] at h
  split at h
  · cases h
  rename_i hex
  split at h
  · rename_i st rows hl
    split at h
    · rename_i rs0 htat
      split at h
      · rename_i hc
        obtain ⟨rfl, rfl⟩ := hc
        cases h
        have hob := M.obs o _ hl
        rw [hm] at hob
        cases hob with
        | tree k1 k2 k3 k4 =>
         have T : Tree w g rows := ⟨k2, k3, k4⟩
         have hrep := tree_rep (R := Rc) T (fun q hq => hO o _ q hl hex (by rw [hm]; exact hq)) _ π rs0 A c k (Nat.le_refl _) htat hg
         rcases hA with hA | hA
         · have : A' = A := by rw [hA]; exact (Addr_add0 A k).symm
           subst this
           exact .dv (B := Rc) ⟨rfl, rfl⟩ hrep
         · have hr0 : rs0 = [] := List.eq_nil_of_length_eq_zero (by omega)
           subst hr0
           exact .dv (B := Rc) ⟨rfl, rfl⟩ .nil
      · cases h
    · cases h
  · cases h
 | @ref o off len c k A A' hm hoc hA =>
  simp only [view] at h
  split at h
  · cases h
  rename_i hex
  split at h
  · rename_i st e k' rows hl
    split at h
    · rename_i l hsub
      cases h
      unfold sub at hsub
      split at hsub
      · rename_i hle
        cases hsub
        refine .pv ((row_rep M hl (.ref hm hoc hA) (bif decide (st ≠ .fz) then Rc else UU w0 S hp w m) (fun ad c' k'' hm' => ?_) hle).weaken (fun b hb => ?_) hU)
        · have hob := M.obs o _ hl
          rw [hm'] at hob
          cases hob with
          | row h1 h2 h3 h4 h5 =>
           obtain ⟨_, hf, _⟩ := h5 ad rfl
           cases st with
           | fz => simpa using hf rfl
           | own => exact hO o _ _ hl hex (by rw [hm']; rfl)
           | io => exact hO o _ _ hl hex (by rw [hm']; rfl)
        · cases hst : decide (st ≠ .fz) with
          | false => rw [hst] at hb; exact hU b hb
          | true => rw [hst] at hb; exact hb
      · cases hsub
    · cases h
  · cases h
 | @bp o off b hm =>
  simp only [view] at h
  split at h
  · cases h
  rename_i hex
  split at h
  · rename_i cs hl
    have hob := M.obs o _ hl
    rw [hm] at hob
    split at h
    · rename_i l hvl
      split at h
      · rename_i ps hd
        cases h
        cases hob with
        | @box _ e cells _ hi hc hs ht =>
         obtain ⟨h1, h2⟩ := viewP_get hvl
         obtain ⟨h3, h4⟩ := dataOf_get hd
         have hrep : ∀ j p, ps[j]? = some p → ∃ b', RepT w mc Rc Uc (cells.getD (off + j) undef) (.pv b' p) := by
          intro j p hj
          obtain ⟨b', hb'⟩ := h4 j p hj
          exact ⟨b', many (k := n) (by omega) (arr := fun j => cells.getD (off + j) undef) (fun j t hj' => ht _ t (by simpa using hj')) hvl j _ hb'⟩
         refine .pv (.pt (fun j => cells.getD (off + j) undef) rfl (hO o _ _ hl hex (by rw [hm]; rfl)) (fun j p hj => ?_) (fun j p hj => ?_))
         · have hlt : j < (cs.drop off).length := by rw [← h1, ← h3]; exact (List.getElem?_eq_some_iff.1 hj).1
           rw [hc.cell]
           exact getD_arr (show off + j < cells.size by simp at hlt; omega)
         · obtain ⟨b', hb'⟩ := hrep j p hj
           exact hP hb'.pvv
      · cases h
    · cases h
  · rename_i ps hl
    have hob := M.obs o _ hl
    rw [hm] at hob
    cases h
    cases hob with
    | @arr _ e cells _ hc hs ht =>
     refine .pv (.pt (fun j => cells.getD (off + j) undef) rfl (hO o _ _ hl hex (by rw [hm]; rfl)) (fun j p hj => ?_) (fun j p hj => ?_))
     · have hlt : j < (ps.drop off).length := (List.getElem?_eq_some_iff.1 hj).1
       rw [hc.cell]
       exact getD_arr (show off + j < cells.size by simp at hlt; omega)
     · exact (ht (off + j) p (by simpa using hj)).weaken (fun b h => hUR b (hU b h)) hU
  · cases h
 | ep => simp [view] at h
 | np => simp [view] at h
 | ap => simp [view] at h
 | @dv v s rows w1 B hS hrep =>
  cases s with
  | some o => simp [view] at h
  | none =>
   simp only [view] at h
   cases h
   obtain ⟨rfl, rfl⟩ := hS
   exact .dv (B := Rc) ⟨rfl, rfl⟩ (hrep.weaken hR hR)
 | dp => simp [view] at h
 | @rp ad cells u hs hRb hc hr =>
  simp only [view] at h
  cases h
  exact .pv (.pt u hs (hR _ hRb) hc (fun j p hj => (hr j p hj).weaken (fun b h => hUR b (hU b h)) hU))
 | @fn f caps arr hs ht =>
  simp only [view] at h
  split at h
  · rename_i l hl
    split at h
    · rename_i ps hd
      cases h
      obtain ⟨h1, h2⟩ := viewP_get hl
      obtain ⟨h3, h4⟩ := dataOf_get hd
      refine .pv (.cl (by rw [h3, h1]; exact hs) (fun j p hj => ?_))
      obtain ⟨b', hb'⟩ := h4 j p hj
      have := many (k := n) (by omega) (arr := fun j => arr.getD j undef) ht hl j _ hb'
      exact hP this.pvv
    · cases h
  · cases h
theorem ObOk.ren [Dd] {m' : Mp} {R U R' U' : Nat → Prop} {f : Nat → Option Nat} (hm : ∀ o i c, f o = some i → m o = some c → m' i = some c) (hR : ∀ b, R b → R' b) (hU : ∀ b, U b → U' b) {cm : Option CM} {ob : OB}
    (h : ObOk w m R U cm ob) : ObOk w m' R' U' cm (renO f ob) := by
 cases h with
 | box hi hc hs ht => exact .box (renL_isCell f hi) hc (by rw [renL_length]; exact hs) (fun j t hj' => by
       rw [renL_get] at hj'
       cases hl : (_ : List TV)[j]? with
       | none => rw [hl] at hj'; cases hj'
       | some y => rw [hl] at hj'; cases hj'; exact (ht j y hl).ren hm hR hU)
 | arr hc hs ht => exact .arr hc hs (fun j p hj' => (ht j p hj').weaken hU hU)
 | row h1 h2 h3 h4 h5 =>
  refine .row h1 h2 h3 h4 (fun ad hA => ?_)
  obtain ⟨hs, hf, cells, hc, hsz, hr⟩ := h5 ad hA
  exact ⟨hs, fun hz => hU _ (hf hz), cells, hc, hsz, fun i r j p hi hj' => (hr i r j p hi hj').weaken hU hU⟩
 | tree h1 h2 h3 h4 => exact .tree h1 h2 h3 h4
 | dat h => exact .dat h
 | dead => exact .dead
theorem ObOk.give {R U : Nat → Prop} {cm : Option CM} {ob : OB} (h : ObOk w m R U cm ob) : ObOk w m R U cm (give ob) := by
 cases h with
 | @row A c k e st rows h1 h2 h3 h4 h5 =>
  cases st with
  | own =>
   refine .row h1 h2 h3 h4 (fun ad hA => ?_)
   obtain ⟨hs, hf, r⟩ := h5 ad hA
   exact ⟨hs, fun h => (by cases h), r⟩
  | _ => exact .row h1 h2 h3 h4 h5
 | box a b c d => exact .box a b c d
 | arr a b c => exact .arr a b c
 | tree h1 h2 h3 h4 => exact .tree (by decide) h2 h3 h4
 | dat h => exact .dat (fun b hB => by
     obtain ⟨e, e1, cells, cells1, a1, a2, a3, a4, _⟩ := h b hB
     exact ⟨e, e1, cells, cells1, a1, a2, a3, a4, fun h => by cases h⟩)
 | dead => exact .dead
theorem Blk_give (c : Option CM) (ob : OB) : Blk c (give ob) = Blk c ob := by
 cases ob with
 | row st e k rows => cases st <;> simp only [give] <;> cases c <;> first | rfl | (rename_i c; cases c <;> rfl)
 | tree st rows => cases c <;> first | rfl | (rename_i c; cases c <;> rfl)
 | dat cl => cases c <;> first | rfl | (rename_i c; cases c <;> rfl)
 | _ => rfl
theorem look_giveH : ∀ (hp : Hp) (i : Nat), look (giveH hp) i = (look hp i).map give
 | [], _ => rfl
 | (j, ob) :: l, i => by
  simp only [giveH, look]
  split
  · rfl
  · exact look_giveH l i
theorem pos_injL [Dd] (L : List Nat) : Inj (pos L) L := fun o o' i _ _ h h' => pos_inj h h'
abbrev hpc (hp : Hp) (rs : List Nat) : Hp := giveH (renH (pos rs) hp rs)
abbrev mpc (m : Mp) (rs : List Nat) : Mp := mren (pos rs) m rs
theorem mpc_eq [Dd] {o i : Nat} (h1 : o ∈ rs) (h2 : pos rs o = some i) : mpc m rs i = m o := mren_eq (pos_injL rs) h1 h2
theorem look_hpc [Dd] {i : Nat} {ob : OB} (h : look (hpc hp rs) i = some ob) : ∃ o x, o ∈ rs ∧ pos rs o = some i ∧ look hp o = some x ∧ ob = give (renO (pos rs) x) := by
 rw [look_giveH] at h
 cases h1 : look (renH (pos rs) hp rs) i with
 | none => rw [h1] at h; cases h
 | some y =>
  rw [h1] at h
  cases h
  obtain ⟨o, x, a, b, c, rfl⟩ := look_renH h1
  exact ⟨o, x, a, b, c, rfl⟩
theorem own_hpc [Dd] {b : Nat} (h : Own (mpc m rs) (hpc hp rs) b) : ∃ o x, o ∈ rs ∧ look hp o = some x ∧ Blk (m o) x b := by
 obtain ⟨i, ob, h1, h2⟩ := h
 obtain ⟨o, x, a1, a2, a3, rfl⟩ := look_hpc h1
 rw [mpc_eq a1 a2, Blk_give, Blk_ren] at h2
 exact ⟨o, x, a1, a3, h2⟩
theorem own_hpc' [Dd] {b : Nat} (h : Own (mpc m rs) (hpc hp rs) b) : Own m hp b := by
 obtain ⟨o, x, _, h2, h3⟩ := own_hpc h
 exact ⟨o, x, h2, h3⟩
theorem rr_hpc [Dd] (b : Nat) (h : RR hp w m b) : RR (hpc hp rs) w (mpc m rs) b := ⟨h.1, fun ho => h.2 (own_hpc' ho)⟩
theorem uu_hpc [Dd] (b : Nat) (h : UU w0 S hp w m b) : UU w (UU w0 S hp w m) (hpc hp rs) w (mpc m rs) b := ⟨rr_hpc b h.1, .inl h⟩
theorem Mem.give [Dd] (M : Mem w0 own0 S hp w m) (rs : List Nat) : Mem w (Own (mpc m rs) (hpc hp rs)) (UU w0 S hp w m) (hpc hp rs) w (mpc m rs) where
 fr := ⟨rfl, rfl, rfl, Nat.le_refl _, fun _ _ _ => rfl, fun _ => Nat.le_refl _⟩
 dom i h := by
  rw [look_giveH] at h
  have h' : look (renH (pos rs) hp rs) i = none := by
   cases h1 : look (renH (pos rs) hp rs) i with
   | none => rfl
   | some y => rw [h1] at h; cases h
  exact (M.ren (pos_injL rs) (fun o i h => pos_of_mem h)).dom i h'
 old b h := ⟨(M.old b (own_hpc' h)).1, .inl h⟩
 sep i i' ob ob' b h1 h2 h3 h4 := by
  obtain ⟨o, x, a1, a2, a3, rfl⟩ := look_hpc h1
  obtain ⟨o', x', b1, b2, b3, rfl⟩ := look_hpc h2
  rw [mpc_eq a1 a2, Blk_give, Blk_ren] at h3
  rw [mpc_eq b1 b2, Blk_give, Blk_ren] at h4
  have := M.sep o o' x x' b a3 b3 h3 h4
  subst this
  rw [a2] at b2
  cases b2; rfl
 nio i ob b h1 hmi h2 := by
  obtain ⟨o, x, a1, a2, a3, rfl⟩ := look_hpc h1
  cases x with
  | row st e' k' rows' => cases st <;> simp [renO, Pm.give, OB.mine] at hmi
  | _ => simp [renO, Pm.give, OB.mine] at hmi
 sown b h := ⟨h.1.1, fun ho => h.1.2 (own_hpc' ho)⟩
 own0lt b h := (M.old b (own_hpc' h)).1
 obs i ob h := by
  obtain ⟨o, x, a1, a2, a3, rfl⟩ := look_hpc h
  rw [mpc_eq a1 a2]
  exact ((M.obs o x a3).ren (fun o i c h1 h2 => by rw [mpc_eq (pos_of_mem h1) h1]; exact h2) rr_hpc uu_hpc).give
theorem handOn_ok [Dd] (M : Mem w0 own0 S hp w m) : ∀ {ts : List TV} {fl : List Bool} {xs : List TV} {f : Nat → Value}, (∀ (j : Nat) (t : TV), ts[j]? = some t → RepT w m (RR hp w m) (UU w0 S hp w m) (f j) t) → handOn hp rs fl ts = some xs →
    xs.length = ts.length ∧ ∀ (j : Nat) (x : TV), xs[j]? = some x → RepT w (mpc m rs) (RR (hpc hp rs) w (mpc m rs)) (UU w (UU w0 S hp w m) (hpc hp rs) w (mpc m rs)) (f j) x := by
 intro ts
 induction ts with
 | nil => intro fl xs f _ h; cases fl <;> simp [handOn] at h <;> subst h <;> exact ⟨rfl, fun j x h => by simp at h⟩
 | cons t l ih =>
  intro fl xs f hf h
  simp only [handOn] at h
  split at h
  · rename_i x xs' h1 h2
    cases h
    obtain ⟨a, b⟩ := ih (f := fun j => f (j + 1)) (fun j t hj => hf (j + 1) t (by simpa using hj)) h2
    refine ⟨by simp [a], fun j y hj => ?_⟩
    cases j with
    | zero =>
     simp at hj
     subst hj
     have h0 := hf 0 t (by simp)
     split at h1
     · cases h1
       exact h0.ren (fun o i c h1 h2 => by rw [mpc_eq (pos_of_mem h1) h1]; exact h2) rr_hpc uu_hpc
     · refine view_ok M rr_hpc uu_hpc (fun b h => h.1) (fun o ob b hl hex hb => ?_) 32 h0 h1
       refine ⟨(M.old b ⟨o, ob, hl, hb⟩).1, fun ho => ?_⟩
       obtain ⟨o', x', c1, c2, c3⟩ := own_hpc ho
       have := M.sep o o' ob x' b hl c2 hb c3
       subst this
       exact hex (by simpa using c1)
    | succ j => exact b j y (by simpa using hj)
  · cases h
end
end Go.Pm
