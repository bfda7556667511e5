/- The pure machine, part 4: an evaluator of the translation's code over plain data, and that it is sound. -/
import Derived.ChangeArms
import Derived.DataReads
import Derived.Laws.BitsLemmas
import Derived.WideShapes
import Derived.Test.YtgbfmdihmnpcdaaGreatDoorPm3
set_option linter.unusedVariables false
set_option linter.unusedSimpArgs false
namespace Go.Pm
open Go
def upTo : Nat → Nat → List Nat
 | 0, _ => []
 | n + 1, i => i :: upTo n (i + 1)
theorem upTo_range : ∀ (n i : Nat), upTo n i = List.range' i n
 | 0, _ => rfl
 | n + 1, i => by simp [upTo, upTo_range n, List.range'_succ]
theorem lim_reg [Dd] {C : Cfg} (f : FuncId) (fn : Func) (k : List It) (s : St) (id : Nat) (ops : Array Oper) : lim C f fn (.c (.region id ops false) :: k) s = lim C f fn (.rg ops (upTo ops.size 0) :: k) s := by
 rw [lim_region, upTo_range, List.range_eq_range']
attribute [simp] evObjs rdOps Op.operands Call.operands apartL writes nrObjs srcOps touched
attribute [simp] upTo
section
variable (C : Cfg) (f : FuncId) (fn : Func)
noncomputable def nextK (ops : Array Oper) (l : List Nat) (k : List It) (tm : List (Nat × TV)) (dst : Option Nat) : Option (TV × Hp) → Option Res
 | some (v, hp') => lim C f fn (.rg ops l :: k) (St.set ⟨tm, hp'⟩ dst v hp')
 | none => none
abbrev Chk := List (PT × List (Nat × List Nat) × St)
open Classical in
noncomputable def chkK (ops : Array Oper) (ch : Chk) (k : List It) (tm : List (Nat × TV)) (hp : Hp) : Option Res :=
 if ∀ c ∈ ch, trun C (phi C (lim C)) ops c.1 c.2.1 c.2.2 = some ⟨tm, hp⟩ then lim C f fn k ⟨tm, hp⟩ else none
noncomputable def drawK (ops : Array Oper) (t : PT) (rd : List (Nat × List Nat)) (ch : Chk) (k : List It) (tm : List (Nat × TV)) (hp : Hp) : Option Res := match trun C (phi C (lim C)) ops t rd ⟨tm, hp⟩ with
 | some s => chkK C f fn ops ch k s.tm s.hp
 | none => none
noncomputable def drK (ops : Array Oper) (l : PT) (rd : List (Nat × List Nat)) (ch : Chk) (k : List It) (tm : List (Nat × TV)) (dst : Option Nat) : Option (TV × Hp) → Option Res
 | some (v, hp') => match dst with
  | some d => drawK C f fn ops l rd ch k (put tm d v) hp'
  | none => drawK C f fn ops l rd ch k tm hp'
 | none => none
noncomputable def ifL (b : Bool) (x y : Code) (k : List It) (tm : List (Nat × TV)) (hp : Hp) : Option Res := bif b then lim C f fn (.c x :: k) ⟨tm, hp⟩ else lim C f fn (.c y :: k) ⟨tm, hp⟩
noncomputable def condL (t : Option TV) (x y : Code) (k : List It) (tm : List (Nat × TV)) (hp : Hp) : Option Res := match t with
 | some (.pv _ (.sc (.bool b))) => ifL C f fn b x y k tm hp
 | _ => none
noncomputable def gI (b : Bool) (ops : Array Oper) (o : Oper) (l : List Nat) (k : List It) (tm : List (Nat × TV)) (hp : Hp) : Option Res :=
 bif b then nextK C f fn ops l k tm o.dst (oneOp C (phi C (lim C)) ⟨tm, hp⟩ o) else nextK C f fn ops l k tm o.dst (some (.tu [], hp))
noncomputable def gL (t : Option TV) (want : Bool) (ops : Array Oper) (o : Oper) (l : List Nat) (k : List It) (tm : List (Nat × TV)) (hp : Hp) : Option Res := match t with
 | some (.pv _ (.sc (.bool b))) => gI C f fn (b == want) ops o l k tm hp
 | some (.tu []) => nextK C f fn ops l k tm o.dst (some (.tu [], hp))
 | _ => none
noncomputable def dI (b : Bool) (ops : Array Oper) (o : Oper) (l : PT) (rd : List (Nat × List Nat)) (ch : Chk) (k : List It) (tm : List (Nat × TV)) (hp : Hp) : Option Res :=
 bif b then drK C f fn ops l rd ch k tm o.dst (oneOp C (phi C (lim C)) ⟨tm, hp⟩ o) else drK C f fn ops l rd ch k tm o.dst (some (.tu [], hp))
noncomputable def dL (t : Option TV) (want : Bool) (ops : Array Oper) (o : Oper) (l : PT) (rd : List (Nat × List Nat)) (ch : Chk) (k : List It) (tm : List (Nat × TV)) (hp : Hp) : Option Res := match t with
 | some (.pv _ (.sc (.bool b))) => dI C f fn (b == want) ops o l rd ch k tm hp
 | some (.tu []) => drK C f fn ops l rd ch k tm o.dst (some (.tu [], hp))
 | _ => none
end
section
variable {C : Cfg} {f : FuncId} {fn : Func} {ops : Array Oper} {o : Oper} {x y : Code} {l : List Nat} {dl : PT} {rd : List (Nat × List Nat)} {ch : Chk} {k : List It} {tm : List (Nat × TV)} {hp hp' : Hp} {dst : Option Nat} {v : TV} {a b want : Bool} {r : Option Res} {d : Nat}
@[simp] theorem nextK_some : nextK C f fn ops l k tm dst (some (v, hp')) = lim C f fn (.rg ops l :: k) (St.set ⟨tm, hp'⟩ dst v hp') := rfl
@[simp] theorem nextK_none : nextK C f fn ops l k tm dst none = none := rfl
@[simp] theorem drK_some : drK C f fn ops dl rd ch k tm (some d) (some (v, hp')) = drawK C f fn ops dl rd ch k (put tm d v) hp' := rfl
@[simp] theorem drK_some' : drK C f fn ops dl rd ch k tm none (some (v, hp')) = drawK C f fn ops dl rd ch k tm hp' := rfl
@[simp] theorem drK_none : drK C f fn ops dl rd ch k tm dst none = none := rfl
@[simp] theorem ifL_true : ifL C f fn true x y k tm hp = lim C f fn (.c x :: k) ⟨tm, hp⟩ := rfl
@[simp] theorem ifL_false : ifL C f fn false x y k tm hp = lim C f fn (.c y :: k) ⟨tm, hp⟩ := rfl
@[simp] theorem ifL_not : ifL C f fn (!b) x y k tm hp = ifL C f fn b y x k tm hp := by cases b <;> rfl
@[simp] theorem condL_bool : condL C f fn (some (.pv a (.sc (.bool b)))) x y k tm hp = ifL C f fn b x y k tm hp := rfl
@[simp] theorem gI_true : gI C f fn true ops o l k tm hp = nextK C f fn ops l k tm o.dst (oneOp C (phi C (lim C)) ⟨tm, hp⟩ o) := rfl
@[simp] theorem gI_false : gI C f fn false ops o l k tm hp = nextK C f fn ops l k tm o.dst (some (.tu [], hp)) := rfl
@[simp] theorem gL_bool : gL C f fn (some (.pv a (.sc (.bool b)))) want ops o l k tm hp = gI C f fn (b == want) ops o l k tm hp := rfl
@[simp] theorem gL_tu : gL C f fn (some (.tu [])) want ops o l k tm hp = nextK C f fn ops l k tm o.dst (some (.tu [], hp)) := rfl
@[simp] theorem dI_true : dI C f fn true ops o dl rd ch k tm hp = drK C f fn ops dl rd ch k tm o.dst (oneOp C (phi C (lim C)) ⟨tm, hp⟩ o) := rfl
@[simp] theorem dI_false : dI C f fn false ops o dl rd ch k tm hp = drK C f fn ops dl rd ch k tm o.dst (some (.tu [], hp)) := rfl
@[simp] theorem dL_bool : dL C f fn (some (.pv a (.sc (.bool b)))) want ops o dl rd ch k tm hp = dI C f fn (b == want) ops o dl rd ch k tm hp := rfl
@[simp] theorem dL_tu : dL C f fn (some (.tu [])) want ops o dl rd ch k tm hp = drK C f fn ops dl rd ch k tm o.dst (some (.tu [], hp)) := rfl
theorem ifL_cases (h : b = true → lim C f fn (.c x :: k) ⟨tm, hp⟩ = r) (h' : b = false → lim C f fn (.c y :: k) ⟨tm, hp⟩ = r) : ifL C f fn b x y k tm hp = r := by cases b; exact h' rfl; exact h rfl
theorem gI_cases (h : b = true → nextK C f fn ops l k tm o.dst (oneOp C (phi C (lim C)) ⟨tm, hp⟩ o) = r) (h' : b = false → nextK C f fn ops l k tm o.dst (some (.tu [], hp)) = r) : gI C f fn b ops o l k tm hp = r := by cases b; exact h' rfl; exact h rfl
theorem gI_cases' (h : b = false → nextK C f fn ops l k tm o.dst (oneOp C (phi C (lim C)) ⟨tm, hp⟩ o) = r) (h' : b = true → nextK C f fn ops l k tm o.dst (some (.tu [], hp)) = r) : gI C f fn (!b) ops o l k tm hp = r := by cases b; exact h rfl; exact h' rfl
theorem dI_cases (h : b = true → drK C f fn ops dl rd ch k tm o.dst (oneOp C (phi C (lim C)) ⟨tm, hp⟩ o) = r) (h' : b = false → drK C f fn ops dl rd ch k tm o.dst (some (.tu [], hp)) = r) : dI C f fn b ops o dl rd ch k tm hp = r := by cases b; exact h' rfl; exact h rfl
theorem dI_cases' (h : b = false → drK C f fn ops dl rd ch k tm o.dst (oneOp C (phi C (lim C)) ⟨tm, hp⟩ o) = r) (h' : b = true → drK C f fn ops dl rd ch k tm o.dst (some (.tu [], hp)) = r) : dI C f fn (!b) ops o dl rd ch k tm hp = r := by cases b; exact h rfl; exact h' rfl
end
section
variable {C : Cfg} (f : FuncId) (fn : Func) (k : List It) (tm : List (Nat × TV)) (hp : Hp)
@[simp] theorem mk_nil [Dd] : lim C f fn [] ⟨tm, hp⟩ = finish C f fn ⟨tm, hp⟩ := lim_nil ..
@[simp] theorem mk_ret [Dd] : lim C f fn (.c .ret :: k) ⟨tm, hp⟩ = finish C f fn ⟨tm, hp⟩ := lim_ret ..
@[simp] theorem mk_skip [Dd] : lim C f fn (.c .skip :: k) ⟨tm, hp⟩ = lim C f fn k ⟨tm, hp⟩ := lim_skip ..
@[simp] theorem mk_seq [Dd] (x y : Code) : lim C f fn (.c (.seq x y) :: k) ⟨tm, hp⟩ = lim C f fn (.c x :: .c y :: k) ⟨tm, hp⟩ := lim_seq ..
@[simp] theorem mk_cond [Dd] (c : Operand) (x y : Code) : lim C f fn (.c (.cond c x y) :: k) ⟨tm, hp⟩ = condL C f fn (St.ev ⟨tm, hp⟩ c) x y k tm hp := by
 rw [lim_cond]
 cases h : St.ev ⟨tm, hp⟩ c with
 | none => rfl
 | some v =>
  cases v with
  | pv b p =>
   cases p with
   | sc v => cases v <;> rfl
   | _ => rfl
  | _ => rfl
@[simp] theorem mk_block [Dd] (id : Nat) (c : Code) : lim C f fn (.c (.block id c) :: k) ⟨tm, hp⟩ = lim C f fn (.c c :: .blk id :: k) ⟨tm, hp⟩ := lim_block ..
@[simp] theorem mk_blk [Dd] (id : Nat) : lim C f fn (.blk id :: k) ⟨tm, hp⟩ = lim C f fn k ⟨tm, hp⟩ := lim_blk ..
@[simp] theorem mk_loop [Dd] (c : Code) : lim C f fn (.c (.loop c) :: k) ⟨tm, hp⟩ = lim C f fn (.lp c (keepD (globs fn) tm) :: k) ⟨tm, hp⟩ := lim_loop ..
@[simp] theorem mk_exit [Dd] (id : Nat) : lim C f fn (.c (.exit id) :: k) ⟨tm, hp⟩ = match exitIt id k with
      | some k' => lim C f fn k' (exitS (exitD id k none) ⟨tm, hp⟩)
      | none => none := lim_exit ..
@[simp] theorem mk_reg [Dd] (id : Nat) (ops : Array Oper) : lim C f fn (.c (.region id ops false) :: k) ⟨tm, hp⟩ = lim C f fn (.rg ops (upTo ops.size 0) :: k) ⟨tm, hp⟩ := lim_reg ..
@[simp] theorem mk_draw [Dd] (id : Nat) (ops : Array Oper) : lim C f fn (.c (.region id ops true) :: k) ⟨tm, hp⟩ = match plan C.bs ops with
      | some l => drawK C f fn ops l [] [] k tm hp
      | none => none := by
 rw [lim_draw]
 cases plan C.bs ops with
 | none => rfl
 | some l =>
  show (match trun C (phi C (lim C)) ops l [] ⟨tm, hp⟩ with
   | some s' => lim C f fn k s'
   | none => none) = match trun C (phi C (lim C)) ops l [] ⟨tm, hp⟩ with
   | some s => chkK C f fn ops [] k s.tm s.hp
   | none => none
  cases trun C (phi C (lim C)) ops l [] ⟨tm, hp⟩ with
  | none => rfl
  | some s => simp [chkK]
@[simp] theorem mk_rg_nil [Dd] (ops : Array Oper) : lim C f fn (.rg ops [] :: k) ⟨tm, hp⟩ = lim C f fn k ⟨tm, hp⟩ := lim_rg_nil ..
@[simp] theorem mk_rg [Dd] (ops : Array Oper) (i : Nat) (l : List Nat) : lim C f fn (.rg ops (i :: l) :: k) ⟨tm, hp⟩ = match ops[i]? with
      | some o => (match o.guard with
       | none => nextK C f fn ops l k tm o.dst (oneOp C (phi C (lim C)) ⟨tm, hp⟩ o)
       | some (j, want) => match (ops[j]?).bind (·.dst) with
        | none => none
        | some g => gL C f fn (look tm g) want ops o l k tm hp)
      | none => none := by
 rw [lim_rg]
 cases ops[i]? with
 | none => rfl
 | some o =>
  have hn : ∀ x : Option (TV × Hp), (match x with
      | some (v, hp) => lim C f fn (.rg ops l :: k) (St.set ⟨tm, hp⟩ o.dst v hp)
      | none => none) = nextK C f fn ops l k tm o.dst x := fun x => by cases x <;> rfl
  have hs : ∀ (v : TV) (hp' : Hp), St.set ⟨tm, hp⟩ o.dst v hp' = St.set ⟨tm, hp'⟩ o.dst v hp' := fun v hp' => by cases o.dst <;> rfl
  dsimp only
  simp only [hs]
  refine (hn (opStep C (phi C (lim C)) ops ⟨tm, hp⟩ o)).trans ?_
  unfold opStep
  cases o.guard with
  | none => rfl
  | some g =>
   obtain ⟨j, want⟩ := g
   dsimp only
   cases (ops[j]?).bind (·.dst) with
   | none => rfl
   | some g =>
    dsimp only
    cases look tm g with
    | none => rfl
    | some v =>
     cases v with
     | pv b p =>
      cases p with
      | sc v =>
       cases v with
       | bool c => dsimp only [gL, gI]; cases (c == want) <;> rfl
       | _ => rfl
      | _ => rfl
     | tu l => cases l <;> rfl
     | _ => rfl
@[simp] theorem set_some (d : Nat) (v : TV) (hp' : Hp) : St.set ⟨tm, hp⟩ (some d) v hp' = ⟨put tm d v, hp'⟩ := rfl
@[simp] theorem set_none (v : TV) (hp' : Hp) : St.set ⟨tm, hp⟩ none v hp' = ⟨tm, hp'⟩ := rfl
@[simp] theorem chkK_nil (ops : Array Oper) : chkK C f fn ops [] k tm hp = lim C f fn k ⟨tm, hp⟩ := by simp [chkK]
open Classical in
@[simp] theorem chkK_cons (ops : Array Oper) (t : PT) (rd : List (Nat × List Nat)) (s : St) (ch : Chk) : chkK C f fn ops ((t, rd, s) :: ch) k tm hp = if trun C (phi C (lim C)) ops t rd s = some ⟨tm, hp⟩ then chkK C f fn ops ch k tm hp else none := by
 unfold chkK
 by_cases h : trun C (phi C (lim C)) ops t rd s = some ⟨tm, hp⟩
 · simp [h]
 · simp [h]
@[simp] theorem drawK_fin (ops : Array Oper) (rd : List (Nat × List Nat)) (ch : Chk) : drawK C f fn ops .fin rd ch k tm hp = chkK C f fn ops ch k tm hp := by simp [drawK, trun]
theorem drawK_step (ops : Array Oper) (i : Nat) (L : List Nat) (l : PT) (rd : List (Nat × List Nat)) (ch : Chk) : (match tstep C (phi C (lim C)) ops i L rd ⟨tm, hp⟩ with
      | some (s', rd') => drawK C f fn ops l rd' ch k s'.tm s'.hp
      | none => none) = match ops[i]? with
 | none => none
 | some o => bif (bif isLight C.bs o.op then (evObjs ⟨tm, hp⟩ (rdOps o.op)).all (fun q => (look hp q).isSome) else rd.all (fun x => !L.contains x.1 || apartL x.2 (touched C ⟨tm, hp⟩ o.op))) then (match o.guard with
     | none => drK C f fn ops l ((i, evObjs ⟨tm, hp⟩ (rdOps o.op)) :: rd) ch k tm o.dst (oneOp C (phi C (lim C)) ⟨tm, hp⟩ o)
     | some (j, want) => match (ops[j]?).bind (·.dst) with
      | none => none
      | some g => dL C f fn (look tm g) want ops o l ((i, evObjs ⟨tm, hp⟩ (rdOps o.op)) :: rd) ch k tm hp) else none := by
 unfold tstep
 cases ops[i]? with
 | none => rfl
 | some o =>
  dsimp only
  generalize (bif isLight C.bs o.op then (evObjs ⟨tm, hp⟩ (rdOps o.op)).all (fun q => (look hp q).isSome) else rd.all (fun x => !L.contains x.1 || apartL x.2 (touched C ⟨tm, hp⟩ o.op))) = c
  cases c with
  | false => rfl
  | true =>
   simp only [cond_true]
   have hn : ∀ (rd : List (Nat × List Nat)) (x : Option (TV × Hp)), (match (match x with
       | some (v, hp') => some (St.set ⟨tm, hp⟩ o.dst v hp', rd)
       | none => none : Option (St × List (Nat × List Nat))) with
       | some (s', rd') => drawK C f fn ops l rd' ch k s'.tm s'.hp
       | none => none) = drK C f fn ops l rd ch k tm o.dst x := fun rd x => by
    cases x with
    | none => rfl
    | some x => obtain ⟨v, hp'⟩ := x; cases o.dst <;> rfl
   refine (hn _ (opStep C (phi C (lim C)) ops ⟨tm, hp⟩ o)).trans ?_
   unfold opStep
   cases o.guard with
   | none => rfl
   | some g =>
    obtain ⟨j, want⟩ := g
    dsimp only
    cases (ops[j]?).bind (·.dst) with
    | none => rfl
    | some g =>
     dsimp only
     cases look tm g with
     | none => rfl
     | some v =>
      cases v with
      | pv b p =>
       cases p with
       | sc v =>
        cases v with
        | bool c => dsimp only [dL, dI]; cases (c == want) <;> rfl
        | _ => rfl
       | _ => rfl
      | tu l => cases l <;> rfl
      | _ => rfl
@[simp] theorem drawK_lt [Dd] (ops : Array Oper) (i : Nat) (l : PT) (rd : List (Nat × List Nat)) (ch : Chk) : drawK C f fn ops (.lt i l) rd ch k tm hp = match ops[i]? with
    | none => none
    | some o => bif (bif isLight C.bs o.op then (evObjs ⟨tm, hp⟩ (rdOps o.op)).all (fun q => (look hp q).isSome) else rd.all (fun x => !([] : List Nat).contains x.1 || apartL x.2 (touched C ⟨tm, hp⟩ o.op))) then (match o.guard with
        | none => drK C f fn ops l ((i, evObjs ⟨tm, hp⟩ (rdOps o.op)) :: rd) ch k tm o.dst (oneOp C (phi C (lim C)) ⟨tm, hp⟩ o)
        | some (j, want) => match (ops[j]?).bind (·.dst) with
         | none => none
         | some g => dL C f fn (look tm g) want ops o l ((i, evObjs ⟨tm, hp⟩ (rdOps o.op)) :: rd) ch k tm hp) else none := by
 rw [← drawK_step]
 unfold drawK
 simp only [trun]
 cases tstep C (phi C (lim C)) ops i [] rd ⟨tm, hp⟩ <;> rfl
@[simp] theorem drawK_hv [Dd] (ops : Array Oper) (i : Nat) (L : List Nat) (l other : PT) (rd : List (Nat × List Nat)) (ch : Chk) : drawK C f fn ops (.hv i L l other) rd ch k tm hp = match ops[i]? with
    | none => none
    | some o => bif (bif isLight C.bs o.op then (evObjs ⟨tm, hp⟩ (rdOps o.op)).all (fun q => (look hp q).isSome) else rd.all (fun x => !L.contains x.1 || apartL x.2 (touched C ⟨tm, hp⟩ o.op))) then (match o.guard with
        | none => drK C f fn ops l ((i, evObjs ⟨tm, hp⟩ (rdOps o.op)) :: rd) (bif other.isNo then ch else (other, rd, ⟨tm, hp⟩) :: ch) k tm o.dst (oneOp C (phi C (lim C)) ⟨tm, hp⟩ o)
        | some (j, want) => match (ops[j]?).bind (·.dst) with
         | none => none
         | some g => dL C f fn (look tm g) want ops o l ((i, evObjs ⟨tm, hp⟩ (rdOps o.op)) :: rd) (bif other.isNo then ch else (other, rd, ⟨tm, hp⟩) :: ch) k tm hp) else none := by
 rw [← drawK_step]
 unfold drawK
 simp only [trun]
 cases tstep C (phi C (lim C)) ops i L rd ⟨tm, hp⟩ with
 | none => rfl
 | some x =>
  obtain ⟨s1, rd1⟩ := x
  dsimp only
  cases trun C (phi C (lim C)) ops l rd1 s1 with
  | none => rfl
  | some e =>
   cases hn : other.isNo with
   | true => rfl
   | false =>
    obtain ⟨etm, ehp⟩ := e
    simp only [cond_false, chkK_cons]
    by_cases h : trun C (phi C (lim C)) ops other rd ⟨tm, hp⟩ = some ⟨etm, ehp⟩
    · rw [if_pos h]; simp [h]
    · rw [if_neg h]; simp [h]
@[simp] theorem fin_mk : finish C f fn ⟨tm, hp⟩ = match outs C ⟨tm, hp⟩ fn.results.toList with
 | some vs => match outTV (C.sg f).ret (oneOf vs) hp with
  | some (r, hp) => if pure? r then
   let L := reach hp 64 (ios hp ++ objs r) []
   if finish.givable' hp L then some (ren (names L) r, renH (names L) hp L) else none
   else none
  | none => none
 | none => none := rfl
end
section
variable (hp : Hp)
@[simp] theorem out_any (t : TV) : outTV .any t hp = some (t, hp) := by simp [outTV]
@[simp] theorem out_pv (p : PV) : outTV .d (.pv false p) hp = some (.pv false p, hp) := by simp [outTV]
@[simp] theorem out_nl : outTV .d .nl hp = some (.pv false (.sl []), hp) := by simp [outTV]
@[simp] theorem out_ar (ps : List PV) : outTV .d (.ar ps) hp = some (.ar ps, hp) := by simp [outTV]
@[simp] theorem out_ref (o off len : Nat) : outTV .d (.ref o off len) hp = match keep hp (.ref o off len) with
    | some (p, hp') => some (.pv false p, hp')
    | none => none := by simp only [outTV]; split <;> simp_all
@[simp] theorem out_tr_nr (o off len : Nat) (π : List (Nat × Nat)) : outTV .tr (.nr o π off len) hp = match asTree hp (.nr o π off len) with
    | some _ => some (.nr o π off len, hp)
    | none => none := by simp only [outTV]; rfl
@[simp] theorem out_tr_nl : outTV .tr .nl hp = match add hp (2000001 + 2 * hp.length) (.tree .own []) with
    | some hp' => some (.nr (2000001 + 2 * hp.length) [] 0 0, hp')
    | none => none := by simp only [outTV]; rfl
@[simp] theorem out_tr_ref (o off len : Nat) : outTV .tr (.ref o off len) hp = match asTree hp (.ref o off len) with
    | some (o', st, rows) => (match add (put hp o' .dead) (2000001 + 2 * hp.length) (.tree st rows) with
     | some hp' => some (.nr (2000001 + 2 * hp.length) [] 0 rows.length, hp')
     | none => none)
    | none => none := by simp only [outTV]; rfl
@[simp] theorem out_ag (cs : List TV) : outTV .d (.ag cs) hp = match keeps hp cs with
    | some (ps, hp') => some (.ag (ps.map (TV.pv false)), hp')
    | none => none := by simp only [outTV]; split <;> simp_all
@[simp] theorem out_tu : outTV .d (.tu []) hp = some (.tu [], hp) := by simp [outTV]
@[simp] theorem out_own (e k o off len : Nat) : outTV (.own e k) (.ref o off len) hp = some (.ref o off len, hp) := by simp [outTV]
@[simp] theorem out_own_nl (e k : Nat) : outTV (.own e k) .nl hp = if 0 < k then (match add hp (2000001 + 2 * hp.length) (.row .own e k []) with
    | some hp' => some (.ref (2000001 + 2 * hp.length) 0 0, hp')
    | none => none) else none := by simp only [outTV]; rfl
@[simp] theorem out_tup (ks : List RK) (cs : List TV) : outTV (.tu ks) (.tu cs) hp = match outL ks cs hp with
    | some (l, hp') => some (.tu l, hp')
    | none => none := by simp only [outTV]; split <;> simp_all
@[simp] theorem out_agk (ks : List RK) (cs : List TV) : outTV (.ag ks) (.ag cs) hp = match outL ks cs hp with
    | some (l, hp') => if l.all TV.isCell then some (.ag l, hp') else none
    | none => none := by simp only [outTV]; cases outL ks cs hp <;> rfl
@[simp] theorem outL_nil : outL [] [] hp = some ([], hp) := by simp [outL]
@[simp] theorem outL_cons (k : RK) (ks : List RK) (t : TV) (ts : List TV) : outL (k :: ks) (t :: ts) hp = match outTV k t hp with
    | some (x, hp') => (match outL ks ts hp' with
     | some (l, hp'') => some (x :: l, hp'')
     | none => none)
    | none => none := by simp only [outL]; rfl
end
@[simp] theorem callAt_nil (C : Cfg) (Φ : FuncId → List TV → Hp → Option Res) (s : St) (d : Nat) (f : FuncId) : callAt C Φ s d f [] = bif isDeep (C.sg f).io [] then callDeep Φ s d f [] else match freshQ (C.sg f).fr [] with
    | some ts => callFresh Φ s d f ts
    | none => callStd C Φ s d f [] := rfl
@[simp] theorem callAt_cons (C : Cfg) (Φ : FuncId → List TV → Hp → Option Res) (s : St) (d : Nat) (f : FuncId) (a : TV) (l : List TV) : callAt C Φ s d f (a :: l) = bif isDeep (C.sg f).io (a :: l) then callDeep Φ s d f (a :: l) else match freshQ (C.sg f).fr (a :: l) with
    | some ts => callFresh Φ s d f ts
    | none => callStd C Φ s d f (a :: l) := rfl
attribute [simp] TV.isNr asTree absorbC absorbs treeRow kOk bothOwn treeApp nrv nrs tat
attribute [simp] eqFs trun tstep opStep PT.isNo mkpv number oneOp isLight lightOp heavyOp memOp pureOp pureOp.bound pureOp.buildUp St.ev Pm.look Pm.put boxOf TV.cells add nid TK.agg loadAt storeAt constTV plain tf arrRow upO mines callOp callDeep callFresh callStd hasD1 hasD isDeep deepT mapO deepV flatT flatT.flatL flatO flatH freshT freshV freshQ ownT ownV gname dvc dcl renS ofS PV.isSc plainC calleeOf evs Pm.given reach objs objs.objsL givable pures handOn view viewP giveH give renH newH retH back ren ren.renL renO outs oneOf pure? pure?.pureL ios finish.givable' names pos exitIt exitD exitS keepD canon keepT vals renT cid pureSem TV.isCell keep keeps sub rowsOf dataOf splice fillRows zeroCells zeroRow
attribute [irreducible] nextK drawK drK chkK ifL condL gI gL dI dL
end Go.Pm
namespace Go.Pm
open Go
section
variable (t : TK) (k : IntKind) (a b : Int)
@[simp] theorem bin_lss : binSc t .lss (.int k a) (.int k b) = some (.bool (decide (a < b))) := by cases k <;> rfl
@[simp] theorem bin_leq : binSc t .leq (.int k a) (.int k b) = some (.bool (decide (a ≤ b))) := by cases k <;> rfl
@[simp] theorem bin_gtr : binSc t .gtr (.int k a) (.int k b) = some (.bool (decide (b < a))) := by cases k <;> rfl
@[simp] theorem bin_geq : binSc t .geq (.int k a) (.int k b) = some (.bool (decide (b ≤ a))) := by cases k <;> rfl
@[simp] theorem bin_eql : binSc t .eql (.int k a) (.int k b) = some (.bool (decide (a = b))) := by
 have : (a == b) = decide (a = b) := rfl
 rw [← this]
 cases k <;> rfl
@[simp] theorem bin_neq : binSc t .neq (.int k a) (.int k b) = some (.bool (!decide (a = b))) := by
 have : (a != b) = !decide (a = b) := rfl
 rw [← this]
 cases k <;> rfl
@[simp] theorem bin_add : binSc t .add (.int k a) (.int k b) = some (.int k (k.wrap (a + b))) := by cases k <;> rfl
@[simp] theorem bin_sub : binSc t .sub (.int k a) (.int k b) = some (.int k (k.wrap (a - b))) := by cases k <;> rfl
@[simp] theorem bin_mul : binSc t .mul (.int k a) (.int k b) = some (.int k (k.wrap (a * b))) := by cases k <;> rfl
theorem bin_rem (h : b ≠ 0) : binSc t .rem (.int k a) (.int k b) = some (.int k (a.tmod b)) := by
 cases k <;> simp [binSc, pureSem, binOp, Op.intDiv, h] <;> rfl
end
@[simp] theorem bin_beq (a b : Bool) : binSc .bool .eql (.bool a) (.bool b) = some (.bool (a == b)) := rfl
@[simp] theorem bin_bne (a b : Bool) : binSc .bool .neq (.bool a) (.bool b) = some (.bool (a != b)) := rfl
@[simp] theorem un_not (a : Bool) : Op.unary .not (.bool a) = Sem.pure (.bool !a) := rfl
theorem wrap_id {a : Int} (h0 : -9223372036854775808 ≤ a) (h1 : a ≤ 9223372036854775807) : IntKind.i64.wrap a = a := by
 rw [IntKind.wrap_i64]
 omega
@[simp] theorem dec_nat (a b : Nat) : decide ((a : Int) = (b : Int)) = decide (a = b) := decide_eq_decide.2 Int.ofNat_inj
theorem loop_ind [Dd] {C : Cfg} {f : FuncId} {fn : Func} {c : Code} {D : List Nat} {k : List It} {α : Type} (μ : α → Nat) (st : α → St) (R : α → Option Res)
    (ok : α → Prop) (step : ∀ x, ok x → (∀ y s', μ y < μ x → ok y → canon D s' = st y → lim C f fn (.lp c D :: k) s' = R y) → lim C f fn (.c c :: .lp c D :: k) (st x) = R x) :
    ∀ x s, ok x → canon D s = st x → lim C f fn (.lp c D :: k) s = R x := by
 intro x
 generalize hm : μ x = m
 induction m using Nat.strongRecOn generalizing x with
 | ind m ih =>
  intro s hx hs
  rw [lim_lp, hs]
  exact step x hx (fun y s' hy hok hc => ih (μ y) (by omega) y rfl s' hok hc)
end Go.Pm
namespace Go.Pm
open Go
def laidFs (C : Cfg) : List (Nat × Nat) → Nat → Option Nat
 | [], a => some a
 | (off, t) :: l, a => if off = a then (match C.T t with
  | some ti => laidFs C l (a + ti.size)
  | none => none) else none
def rdOk (C : Cfg) : Nat → Nat → Bool
 | 0, _ => false
 | n + 1, t => match C.T t with
  | none => false
  | some ti => match ti.kind with
   | .int _ => ti.size == 1
   | .bool => ti.size == 1
   | .str => ti.size == 1
   | .slice e => ti.size == 1 && rdOk C n e && (match C.T e with
    | some ei => decide (0 < ei.size)
    | none => false)
   | .struct fs => laidFs C fs 0 == some ti.size && fs.all fun f => rdOk C n f.2
   | _ => false
def rdIn (C : Cfg) (ts : List Nat) (t : Nat) : Bool := match C.T t with
 | none => false
 | some ti => match ti.kind with
  | .int _ => ti.size == 1
  | .bool => ti.size == 1
  | .str => ti.size == 1
  | .slice e => ti.size == 1 && ts.contains e && (match C.T e with
   | some ei => decide (0 < ei.size)
   | none => false)
  | .struct fs => laidFs C fs 0 == some ti.size && fs.all fun f => ts.contains f.2
  | _ => false
def rdSet (C : Cfg) (ts : List Nat) : Bool := ts.all (rdIn C ts)
def ShapeFs (S : Nat → List PV → Prop) : List (Nat × Nat) → List PV → Prop
 | [], ps => ps = []
 | (_, t) :: l, ps => ∃ p q, ps = p ++ q ∧ S t p ∧ ShapeFs S l q
def Shape (C : Cfg) : Nat → Nat → List PV → Prop
 | 0, _, _ => False
 | n + 1, t, ps => match C.T t with
  | none => False
  | some ti => match ti.kind with
   | .int k => ∃ a, ps = [.sc (.int k a)] ∧ (Lit.int k a).wf = true
   | .bool => ∃ b, ps = [.sc (.bool b)]
   | .str => ∃ s : ByteArray, ps = [.sc (.string s)] ∧ s.size ≤ maxLen
   | .slice e => ∃ rows, ps = [.sl rows] ∧ rows.length ≤ maxLen ∧ ∀ r ∈ rows, Shape C n e r
   | .struct fs => ShapeFs (Shape C n) fs ps
   | _ => False
section
variable {H : Type} {enc : TypeId × Value → H} {C : Cfg} {w : World} {base : Nat} {spare : Nat → Bool} {held : Bool}
theorem TyOk.cellsOf {P : Program} {t : Nat} {i : TI} (h : TyOk P t i) : P.cellsOf t = i.size := by
 obtain ⟨ti, h1, h2, _⟩ := h.info
 simp [Program.cellsOf, h1, h2]
theorem fields_rep [Dd] {R U : Nat → Prop} {S : Nat → List PV → Prop} {cs : List Value} (hT : TabOk C) : ∀ {fs : List (Nat × Nat)} {a m : Nat}, laidFs C fs a = some m → m = cs.length → a ≤ cs.length →
    (∀ f ∈ fs, ∃ ps : List PV, ps.length = ((cs.drop f.1).take (C.P.cellsOf f.2)).length ∧ (∀ (j : Nat) (p : PV), ps[j]? = some p → Rep w R U (((cs.drop f.1).take (C.P.cellsOf f.2)).getD j undef) p) ∧ S f.2 ps) →
    ∃ ps : List PV, ps.length = (cs.drop a).length ∧ (∀ (j : Nat) (p : PV), ps[j]? = some p → Rep w R U ((cs.drop a).getD j undef) p) ∧ ShapeFs S fs ps := by
 intro fs
 induction fs with
 | nil =>
  intro a m h hm _ _
  simp [laidFs] at h
  subst h
  subst hm
  exact ⟨[], by simp, fun j p h => by simp at h, rfl⟩
 | cons f l ih =>
  obtain ⟨off, t⟩ := f
  intro a m h hm ha hf
  simp only [laidFs] at h
  split at h
  · rename_i e
    subst e
    split at h
    · rename_i ti ht
      have hc := (hT t ti ht).cellsOf
      obtain ⟨p, p1, p2, p3⟩ := hf (off, t) (List.mem_cons_self ..)
      dsimp only at p1 p2 p3
      rw [hc] at p1 p2
      have hle : off + ti.size ≤ cs.length := by
       have : ∀ {l : List (Nat × Nat)} {a m : Nat}, laidFs C l a = some m → a ≤ m := by
        intro l
        induction l with
        | nil => intro a m h; simp [laidFs] at h; omega
        | cons f l ih =>
         obtain ⟨o, t⟩ := f
         intro a m h
         simp only [laidFs] at h
         split at h
         · split at h
           · have := ih h; omega
           · cases h
         · cases h
       have := this h
       omega
      obtain ⟨q, q1, q2, q3⟩ := ih h hm hle (fun f hf' => hf f (List.mem_cons_of_mem _ hf'))
      have hpl : p.length = ti.size := by rw [p1]; simp; omega
      refine ⟨p ++ q, by simp [q1, hpl]; omega, fun j x hj => ?_, p, q, rfl, p3, q3⟩
      by_cases hlt : j < ti.size
      · rw [List.getElem?_append_left (by omega)] at hj
        have := p2 j x hj
        simpa [List.getD, List.getElem?_take, hlt] using this
      · rw [List.getElem?_append_right (by omega), hpl] at hj
        have := q2 _ x hj
        have e : off + ti.size + (j - ti.size) = off + j := by omega
        simpa [List.getD, List.getElem?_drop, e] using this
    · cases h
  · cases h
theorem trod_rep [Dd] (hT : TabOk C) : ∀ (n : Nat) {k : Nat} {t : Nat} {cs : List Value} {x : DataW H × List MemPlace} {R U : Nat → Prop}, (∀ b, b < w.heap.size → R b) → (∀ b, b < w.heap.size → U b) → rdOk C n t = true → DataW.trod enc C.P w base spare held k t cs = some x →
    ∃ ps : List PV, ps.length = cs.length ∧ (∀ (j : Nat) (p : PV), ps[j]? = some p → Rep w R U (cs.getD j undef) p) ∧ Shape C n t ps := by
 intro n
 induction n with
 | zero => intro k t cs x R U _ _ h; simp [rdOk] at h
 | succ n ih =>
  intro k t cs x R U hR hU h htr
  simp only [rdOk] at h
  split at h
  · cases h
  rename_i ti ht
  have hty := hT t ti ht
  obtain ⟨d, hd, hdk⟩ := hty.desc
  have one : ∀ {v : Value} {p : PV}, Rep w R U v p → ∀ (j : Nat) (q : PV), [p][j]? = some q → Rep w R U ([v].getD j undef) q := by
   intro v p hr j q hj
   cases j with
   | zero => simp at hj; subst hj; simpa using hr
   | succ j => simp at hj
  cases hk : ti.kind with
  | int kk =>
   rw [hk] at hdk
   have hd' : C.P.underlying t = some (.int kk) := by cases d <;> simp [dOk] at hdk; rw [hd, hdk]
   obtain ⟨a, rfl, _, hw⟩ := DataW.trod_int hd' htr
   exact ⟨[.sc (.int kk a)], rfl, one (.sc rfl), by simp only [Shape, ht, hk]; exact ⟨a, rfl, hw⟩⟩
  | bool =>
   rw [hk] at hdk
   have hd' : C.P.underlying t = some .bool := by cases d <;> simp [dOk] at hdk; rw [hd]
   obtain ⟨a, rfl, _⟩ := DataW.trod_bool hd' htr
   exact ⟨[.sc (.bool a)], rfl, one (.sc rfl), by simp only [Shape, ht, hk]; exact ⟨a, rfl⟩⟩
  | str =>
   rw [hk] at hdk
   have hd' : C.P.underlying t = some .string := by cases d <;> simp [dOk] at hdk; rw [hd]
   obtain ⟨a, rfl, _, hw⟩ := DataW.trod_string hd' htr
   exact ⟨[.sc (.string a)], rfl, one (.sc rfl), by simp only [Shape, ht, hk]; exact ⟨a, rfl, hw⟩⟩
  | slice e =>
   rw [hk] at hdk h
   simp only [Bool.and_eq_true, beq_iff_eq] at h
   obtain ⟨⟨_, he⟩, he0⟩ := h
   have hd' : C.P.underlying t = some (.slice e) := by cases d <;> simp [dOk] at hdk; rw [hd, hdk]
   rcases DataW.trod_slice hd' htr with ⟨rfl, _⟩ | ⟨a, len, cap, elems, rest, m, _, rfl, _, _, hlc, hcm, hel, hat, _, _⟩
   · exact ⟨[.sl []], rfl, one .nil, by simp only [Shape, ht, hk]; exact ⟨[], rfl, by simp, fun r hr => by cases hr⟩⟩
   · split at he0
     · rename_i ei hei
       have hei0 : 0 < ei.size := by simpa using he0
       have hce := (hT e ei hei).cellsOf
       have row : ∀ i, i < len → ∃ (cells : List Value) (ps : List PV), cells.length = ei.size ∧ ps.length = ei.size ∧ (∀ j, j < ei.size → w.cell? ((a.add (i * ei.size)).add j) = cells[j]?) ∧ (∀ (j : Nat) (p : PV), ps[j]? = some p → Rep w U U (cells.getD j undef) p) ∧ Shape C n e ps := by
        intro i hi
        have h1 := hat i hi
        rw [hce] at h1
        have h2 : ∃ y, elems[i]? = some y := ⟨elems[i]'(by omega), List.getElem?_eq_getElem (by omega)⟩
        obtain ⟨y, hy⟩ := h2
        rw [hy] at h1
        obtain ⟨cells, hc1, hc2⟩ := Option.bind_eq_some_iff.1 h1
        obtain ⟨_, c1, c2⟩ := World.cells?_some hc1
        obtain ⟨ps, p1, p2, p3⟩ := ih hU hU he hc2
        exact ⟨cells, ps, c1, by rw [p1, c1], c2, p2, p3⟩
       let f : Nat → List Value × List PV := fun i => if h : i < len then ((row i h).choose, (row i h).choose_spec.choose) else ([], [])
       have hf : ∀ i, i < len → (f i).1.length = ei.size ∧ (f i).2.length = ei.size ∧ (∀ j, j < ei.size → w.cell? ((a.add (i * ei.size)).add j) = (f i).1[j]?) ∧ (∀ (j : Nat) (p : PV), (f i).2[j]? = some p → Rep w U U ((f i).1.getD j undef) p) ∧ Shape C n e (f i).2 := by
        intro i hi
        simp only [f, dif_pos hi]
        exact (row i hi).choose_spec.choose_spec
       let rows : List (List PV) := (List.range len).map fun i => (f i).2
       have hrow : ∀ {i : Nat} {r : List PV}, rows[i]? = some r → i < len ∧ r = (f i).2 := by
        intro i r hi
        simp only [rows, List.getElem?_map] at hi
        by_cases hlt : i < len
        · simp [hlt] at hi; exact ⟨hlt, hi.symm⟩
        · simp [hlt] at hi
       have hlen : rows.length = len := by simp [rows]
       refine ⟨[.sl rows], rfl, ?_, ?_⟩
       · refine one ?_
         by_cases h0 : len = 0
         · subst h0
           have : rows = [] := by simp [rows]
           rw [this]
           exact .nil
         · have hc0 := (hf 0 (by omega)).2.2.1 0 hei0
           have hs0 : (f 0).1[0]? = some ((f 0).1.getD 0 undef) := by
            have := (hf 0 (by omega)).1
            simp [List.getD, show 0 < (f 0).1.length by omega]
           rw [hs0] at hc0
           have e0 : (a.add (0 * ei.size)).add 0 = a := by simp [Addr.add]
           rw [e0] at hc0
           have hsp : a.spot = none := by
            unfold World.cell? at hc0
            split at hc0
            · split at hc0
              · cases hc0
              · rename_i hh; simpa using hh
            all_goals first | cases hc0 | skip
           have hblk : a.block < w.heap.size := World.block_lt_of_cell? w _ hc0
           obtain ⟨bl, of_, sp⟩ := a
           simp only at hsp
           subst hsp
           have := Rep.sl (w := w) (R := R) (U := U) (ad := ⟨bl, of_, none⟩) (c := cap) (k := ei.size) (rows := rows) (fun i j => (f i).1.getD j undef) rfl (hR _ hblk) (by omega)
            (fun i r hi => by obtain ⟨h1, rfl⟩ := hrow hi; exact (hf i h1).2.1)
            (fun i r j p hi hj => by
             obtain ⟨h1, rfl⟩ := hrow hi
             have hj' : j < ei.size := by rw [← (hf i h1).2.1]; exact (List.getElem?_eq_some_iff.1 hj).1
             have := (hf i h1).2.2.1 j hj'
             rw [Addr.add_lit, Addr.add_lit] at this
             simp only at this ⊢
             rw [show of_ + (i * ei.size + j) = of_ + i * ei.size + j by omega, this]
             have := (hf i h1).1
             simp [List.getD, show j < (f i).1.length by omega])
            (fun i r j p hi hj => by obtain ⟨h1, rfl⟩ := hrow hi; exact (hf i h1).2.2.2.1 j p hj)
           rw [hlen] at this
           exact this
       · simp only [Shape, ht, hk]
         refine ⟨rows, rfl, by omega, fun r hr => ?_⟩
         obtain ⟨i, hi⟩ := List.getElem?_of_mem hr
         obtain ⟨h1, rfl⟩ := hrow hi
         exact (hf i h1).2.2.2.2
     · cases he0
  | struct fs =>
   rw [hk] at hdk h
   simp only [Bool.and_eq_true, beq_iff_eq, List.all_eq_true] at h
   obtain ⟨hl, hall⟩ := h
   cases d with
   | struct fields =>
    simp only [dOk, Bool.and_eq_true, beq_iff_eq] at hdk
    obtain ⟨hsz, hfs⟩ := hdk
    obtain ⟨xs, m, _, _, hlen, hxl, hat⟩ := DataW.trod_struct hd htr
    rw [hty.cellsOf] at hlen
    obtain ⟨ps, p1, p2, p3⟩ := fields_rep (w := w) (R := R) (U := U) (S := Shape C n) (cs := cs) hT hl hlen.symm (Nat.zero_le _) (fun f hf => by
     obtain ⟨i, hi⟩ := List.getElem?_of_mem hf
     have h1 := allOk_get hfs hi
     simp only [Nat.zero_add] at h1
     split at h1
     · rename_i fd hfd
       simp only [Bool.and_eq_true, beq_iff_eq] at h1
       obtain ⟨⟨ho, hft⟩, _⟩ := h1
       have h2 := hat i fd hfd
       rw [ho, hft] at h2
       have hi' : i < xs.length := by
        rw [hxl, hsz]; exact (List.getElem?_eq_some_iff.1 hi).1
       rw [List.getElem?_eq_getElem hi'] at h2
       exact ih hR hU (hall f hf) h2
     · cases h1)
    refine ⟨ps, by simpa using p1, by simpa using p2, ?_⟩
    simp only [Shape, ht, hk]
    exact p3
   | _ => simp [dOk] at hdk
  | _ => rw [hk] at h; simp at h
theorem trod_repR [Dd] (hT : TabOk C) {ts : List Nat} (hts : rdSet C ts = true) : ∀ (k : Nat) {t : Nat} {cs : List Value} {x : DataW H × List MemPlace} {R U : Nat → Prop}, (∀ b, b < w.heap.size → R b) → (∀ b, b < w.heap.size → U b) → ts.contains t = true → DataW.trod enc C.P w base spare held k t cs = some x →
    ∃ ps : List PV, ps.length = cs.length ∧ (∀ (j : Nat) (p : PV), ps[j]? = some p → Rep w R U (cs.getD j undef) p) ∧ Shape C k t ps := by
 intro k
 induction k with
 | zero => intro t cs x R U _ _ h htr; simp [DataW.trod] at htr
 | succ n ih =>
  intro t cs x R U hR hU h0t htr
  have h := List.all_eq_true.1 hts t (by simpa using h0t)
  simp only [rdIn] at h
  split at h
  · cases h
  rename_i ti ht
  have hty := hT t ti ht
  obtain ⟨d, hd, hdk⟩ := hty.desc
  have one : ∀ {v : Value} {p : PV}, Rep w R U v p → ∀ (j : Nat) (q : PV), [p][j]? = some q → Rep w R U ([v].getD j undef) q := by
   intro v p hr j q hj
   cases j with
   | zero => simp at hj; subst hj; simpa using hr
   | succ j => simp at hj
  cases hk : ti.kind with
  | int kk =>
   rw [hk] at hdk
   have hd' : C.P.underlying t = some (.int kk) := by cases d <;> simp [dOk] at hdk; rw [hd, hdk]
   obtain ⟨a, rfl, _, hw⟩ := DataW.trod_int hd' htr
   exact ⟨[.sc (.int kk a)], rfl, one (.sc rfl), by simp only [Shape, ht, hk]; exact ⟨a, rfl, hw⟩⟩
  | bool =>
   rw [hk] at hdk
   have hd' : C.P.underlying t = some .bool := by cases d <;> simp [dOk] at hdk; rw [hd]
   obtain ⟨a, rfl, _⟩ := DataW.trod_bool hd' htr
   exact ⟨[.sc (.bool a)], rfl, one (.sc rfl), by simp only [Shape, ht, hk]; exact ⟨a, rfl⟩⟩
  | str =>
   rw [hk] at hdk
   have hd' : C.P.underlying t = some .string := by cases d <;> simp [dOk] at hdk; rw [hd]
   obtain ⟨a, rfl, _, hw⟩ := DataW.trod_string hd' htr
   exact ⟨[.sc (.string a)], rfl, one (.sc rfl), by simp only [Shape, ht, hk]; exact ⟨a, rfl, hw⟩⟩
  | slice e =>
   rw [hk] at hdk h
   simp only [Bool.and_eq_true, beq_iff_eq] at h
   obtain ⟨⟨_, he⟩, he0⟩ := h
   have hd' : C.P.underlying t = some (.slice e) := by cases d <;> simp [dOk] at hdk; rw [hd, hdk]
   rcases DataW.trod_slice hd' htr with ⟨rfl, _⟩ | ⟨a, len, cap, elems, rest, m, hkm, rfl, _, _, hlc, hcm, hel, hat, _, _⟩
   · exact ⟨[.sl []], rfl, one .nil, by simp only [Shape, ht, hk]; exact ⟨[], rfl, by simp, fun r hr => by cases hr⟩⟩
   · split at he0
     · rename_i ei hei
       have hei0 : 0 < ei.size := by simpa using he0
       have hce := (hT e ei hei).cellsOf
       have row : ∀ i, i < len → ∃ (cells : List Value) (ps : List PV), cells.length = ei.size ∧ ps.length = ei.size ∧ (∀ j, j < ei.size → w.cell? ((a.add (i * ei.size)).add j) = cells[j]?) ∧ (∀ (j : Nat) (p : PV), ps[j]? = some p → Rep w U U (cells.getD j undef) p) ∧ Shape C n e ps := by
        intro i hi
        have h1 := hat i hi
        rw [hce] at h1
        have h2 : ∃ y, elems[i]? = some y := ⟨elems[i]'(by omega), List.getElem?_eq_getElem (by omega)⟩
        obtain ⟨y, hy⟩ := h2
        rw [hy] at h1
        obtain ⟨cells, hc1, hc2⟩ := Option.bind_eq_some_iff.1 h1
        obtain rfl : n = m := by omega
        obtain ⟨_, c1, c2⟩ := World.cells?_some hc1
        obtain ⟨ps, p1, p2, p3⟩ := ih hU hU he hc2
        exact ⟨cells, ps, c1, by rw [p1, c1], c2, p2, p3⟩
       let f : Nat → List Value × List PV := fun i => if h : i < len then ((row i h).choose, (row i h).choose_spec.choose) else ([], [])
       have hf : ∀ i, i < len → (f i).1.length = ei.size ∧ (f i).2.length = ei.size ∧ (∀ j, j < ei.size → w.cell? ((a.add (i * ei.size)).add j) = (f i).1[j]?) ∧ (∀ (j : Nat) (p : PV), (f i).2[j]? = some p → Rep w U U ((f i).1.getD j undef) p) ∧ Shape C n e (f i).2 := by
        intro i hi
        simp only [f, dif_pos hi]
        exact (row i hi).choose_spec.choose_spec
       let rows : List (List PV) := (List.range len).map fun i => (f i).2
       have hrow : ∀ {i : Nat} {r : List PV}, rows[i]? = some r → i < len ∧ r = (f i).2 := by
        intro i r hi
        simp only [rows, List.getElem?_map] at hi
        by_cases hlt : i < len
        · simp [hlt] at hi; exact ⟨hlt, hi.symm⟩
        · simp [hlt] at hi
       have hlen : rows.length = len := by simp [rows]
       refine ⟨[.sl rows], rfl, ?_, ?_⟩
       · refine one ?_
         by_cases h0 : len = 0
         · subst h0
           have : rows = [] := by simp [rows]
           rw [this]
           exact .nil
         · have hc0 := (hf 0 (by omega)).2.2.1 0 hei0
           have hs0 : (f 0).1[0]? = some ((f 0).1.getD 0 undef) := by
            have := (hf 0 (by omega)).1
            simp [List.getD, show 0 < (f 0).1.length by omega]
           rw [hs0] at hc0
           have e0 : (a.add (0 * ei.size)).add 0 = a := by simp [Addr.add]
           rw [e0] at hc0
           have hsp : a.spot = none := by
            unfold World.cell? at hc0
            split at hc0
            · split at hc0
              · cases hc0
              · rename_i hh; simpa using hh
            all_goals first | cases hc0 | skip
           have hblk : a.block < w.heap.size := World.block_lt_of_cell? w _ hc0
           obtain ⟨bl, of_, sp⟩ := a
           simp only at hsp
           subst hsp
           have := Rep.sl (w := w) (R := R) (U := U) (ad := ⟨bl, of_, none⟩) (c := cap) (k := ei.size) (rows := rows) (fun i j => (f i).1.getD j undef) rfl (hR _ hblk) (by omega)
            (fun i r hi => by obtain ⟨h1, rfl⟩ := hrow hi; exact (hf i h1).2.1)
            (fun i r j p hi hj => by
             obtain ⟨h1, rfl⟩ := hrow hi
             have hj' : j < ei.size := by rw [← (hf i h1).2.1]; exact (List.getElem?_eq_some_iff.1 hj).1
             have := (hf i h1).2.2.1 j hj'
             rw [Addr.add_lit, Addr.add_lit] at this
             simp only at this ⊢
             rw [show of_ + (i * ei.size + j) = of_ + i * ei.size + j by omega, this]
             have := (hf i h1).1
             simp [List.getD, show j < (f i).1.length by omega])
            (fun i r j p hi hj => by obtain ⟨h1, rfl⟩ := hrow hi; exact (hf i h1).2.2.2.1 j p hj)
           rw [hlen] at this
           exact this
       · simp only [Shape, ht, hk]
         refine ⟨rows, rfl, by omega, fun r hr => ?_⟩
         obtain ⟨i, hi⟩ := List.getElem?_of_mem hr
         obtain ⟨h1, rfl⟩ := hrow hi
         exact (hf i h1).2.2.2.2
     · cases he0
  | struct fs =>
   rw [hk] at hdk h
   simp only [Bool.and_eq_true, beq_iff_eq, List.all_eq_true] at h
   obtain ⟨hl, hall⟩ := h
   cases d with
   | struct fields =>
    simp only [dOk, Bool.and_eq_true, beq_iff_eq] at hdk
    obtain ⟨hsz, hfs⟩ := hdk
    obtain ⟨xs, m, hkm, _, hlen, hxl, hat⟩ := DataW.trod_struct hd htr
    obtain rfl : n = m := by omega
    rw [hty.cellsOf] at hlen
    obtain ⟨ps, p1, p2, p3⟩ := fields_rep (w := w) (R := R) (U := U) (S := Shape C n) (cs := cs) hT hl hlen.symm (Nat.zero_le _) (fun f hf => by
     obtain ⟨i, hi⟩ := List.getElem?_of_mem hf
     have h1 := allOk_get hfs hi
     simp only [Nat.zero_add] at h1
     split at h1
     · rename_i fd hfd
       simp only [Bool.and_eq_true, beq_iff_eq] at h1
       obtain ⟨⟨ho, hft⟩, _⟩ := h1
       have h2 := hat i fd hfd
       rw [ho, hft] at h2
       have hi' : i < xs.length := by
        rw [hxl, hsz]; exact (List.getElem?_eq_some_iff.1 hi).1
       rw [List.getElem?_eq_getElem hi'] at h2
       exact ih hR hU (hall f hf) h2
     · cases h1)
    refine ⟨ps, by simpa using p1, by simpa using p2, ?_⟩
    simp only [Shape, ht, hk]
    exact p3
   | _ => simp [dOk] at hdk
  | _ => rw [hk] at h; simp at h
end
end Go.Pm
namespace Go.Pm
open Go Go.RowKit
def argTV (agg : Bool) (ps : List PV) : TV := bif agg then .ag (ps.map (TV.pv false)) else (match ps with
 | [p] => .pv false p
 | _ => .ud)
abbrev lt' (w : World) : Nat → Prop := fun b => b < w.heap.size
section
variable {C : Cfg}
theorem arg_rep [Dd] {H : Type} {enc : TypeId × Value → H} {W : World} {base : Nat} {spare : Nat → Bool} {held : Bool} {r : Reach} {b0 : Nat} {t : Nat} {ti : TI} {v : Value} {d : DataW H} {p : List MemPlace} {n : Nat} (hT : TabOk C) (ht : C.T t = some ti) (hn : rdOk C n t = true)
    (hv : Value.okWide C.P W r b0 t v) (h : DataW.Trod enc C.P W base spare held t v d p) : ∃ ps : List PV, Shape C n t ps ∧ RepT W (fun _ => none) (lt' W) (lt' W) v (argTV ti.kind.agg ps) := by
 obtain ⟨fuel, h⟩ := h
 obtain ⟨ps, h1, h2, h3⟩ := trod_rep (R := lt' W) (U := lt' W) hT n (fun _ h => h) (fun _ h => h) hn h
 refine ⟨ps, h3, ?_⟩
 obtain ⟨dd, hd, hdk⟩ := (hT t ti ht).desc
 have one : v.oneCell' = true → ti.kind.agg = false → RepT W (fun _ => none) (lt' W) (lt' W) v (argTV ti.kind.agg ps) := by
  intro ho ha
  rw [oneCell_cells ho] at h1 h2
  rw [ha]
  match ps, h1, h2 with
  | [q], _, h2 =>
   have := h2 0 q (by simp)
   exact .pv (by simpa using this)
 cases n with
 | zero => simp [rdOk] at hn
 | succ n =>
  simp only [rdOk, ht] at hn
  cases hk : ti.kind with
  | struct fs =>
   rw [hk] at hdk
   cases dd with
   | struct fields =>
    simp only [Value.okWide, hd] at hv
    obtain ⟨cs, rfl, _⟩ := hv
    have e : (TK.struct fs).agg = true := rfl
    rw [e]
    simp only [argTV, cond_true]
    have hc : (Value.agg cs).cells = cs := rfl
    rw [hc] at h1 h2
    refine .ag (fun x hx => by obtain ⟨q, _, rfl⟩ := List.mem_map.1 hx; rfl) (by simp [h1]) (fun j x hj => ?_)
    rw [List.getElem?_map] at hj
    cases hq : ps[j]? with
    | none => rw [hq] at hj; cases hj
    | some q =>
     rw [hq] at hj
     cases hj
     have := h2 j q hq
     refine .pv ?_
     rw [getD_list] at this
     exact this
   | _ => simp [dOk] at hdk
  | int kk =>
   refine hk ▸ one ?_ (by rw [hk]; rfl)
   rw [hk] at hdk
   have hd' : C.P.underlying t = some (.int kk) := by cases dd <;> simp [dOk] at hdk; rw [hd, hdk]
   simp only [Value.okWide, hd', Cell.okWide] at hv
   cases v <;> simp_all [Cell.ok, Value.oneCell']
  | bool =>
   refine hk ▸ one ?_ (by rw [hk]; rfl)
   rw [hk] at hdk
   have hd' : C.P.underlying t = some .bool := by cases dd <;> simp [dOk] at hdk; rw [hd]
   simp only [Value.okWide, hd', Cell.okWide] at hv
   cases v <;> simp_all [Cell.ok, Value.oneCell']
  | str =>
   refine hk ▸ one ?_ (by rw [hk]; rfl)
   rw [hk] at hdk
   have hd' : C.P.underlying t = some .string := by cases dd <;> simp [dOk] at hdk; rw [hd]
   obtain ⟨s, rfl⟩ := WideShapes.okWide_string hd' hv
   rfl
  | slice e =>
   refine hk ▸ one ?_ (by rw [hk]; rfl)
   rw [hk] at hdk
   have hd' : C.P.underlying t = some (.slice e) := by cases dd <;> simp [dOk] at hdk; rw [hd, hdk]
   obtain ⟨a, l, c, rfl⟩ := WideShapes.okWide_slice hd' hv
   rfl
  | _ => rw [hk] at hn; simp at hn
theorem arg_repR [Dd] {H : Type} {enc : TypeId × Value → H} {W : World} {base : Nat} {spare : Nat → Bool} {held : Bool} {r : Reach} {b0 : Nat} {t : Nat} {ti : TI} {v : Value} {d : DataW H} {p : List MemPlace} {ts : List Nat} (hT : TabOk C) (hts : rdSet C ts = true) (ht : C.T t = some ti) (hn0 : ts.contains t = true)
    (hv : Value.okWide C.P W r b0 t v) (h : DataW.Trod enc C.P W base spare held t v d p) : ∃ (n : Nat) (ps : List PV), Shape C n t ps ∧ RepT W (fun _ => none) (lt' W) (lt' W) v (argTV ti.kind.agg ps) := by
 obtain ⟨fuel, h⟩ := h
 obtain ⟨ps, h1, h2, h3⟩ := trod_repR (R := lt' W) (U := lt' W) hT hts fuel (fun _ h => h) (fun _ h => h) hn0 h
 refine ⟨fuel, ps, h3, ?_⟩
 have hn := List.all_eq_true.1 hts t (by simpa using hn0)
 obtain ⟨dd, hd, hdk⟩ := (hT t ti ht).desc
 have one : v.oneCell' = true → ti.kind.agg = false → RepT W (fun _ => none) (lt' W) (lt' W) v (argTV ti.kind.agg ps) := by
  intro ho ha
  rw [oneCell_cells ho] at h1 h2
  rw [ha]
  match ps, h1, h2 with
  | [q], _, h2 =>
   have := h2 0 q (by simp)
   exact .pv (by simpa using this)
 · simp only [rdIn, ht] at hn
   cases hk : ti.kind with
   | struct fs =>
    rw [hk] at hdk
    cases dd with
    | struct fields =>
     simp only [Value.okWide, hd] at hv
     obtain ⟨cs, rfl, _⟩ := hv
     have e : (TK.struct fs).agg = true := rfl
     rw [e]
     simp only [argTV, cond_true]
     have hc : (Value.agg cs).cells = cs := rfl
     rw [hc] at h1 h2
     refine .ag (fun x hx => by obtain ⟨q, _, rfl⟩ := List.mem_map.1 hx; rfl) (by simp [h1]) (fun j x hj => ?_)
     rw [List.getElem?_map] at hj
     cases hq : ps[j]? with
     | none => rw [hq] at hj; cases hj
     | some q =>
      rw [hq] at hj
      cases hj
      have := h2 j q hq
      refine .pv ?_
      rw [getD_list] at this
      exact this
    | _ => simp [dOk] at hdk
   | int kk =>
    refine hk ▸ one ?_ (by rw [hk]; rfl)
    rw [hk] at hdk
    have hd' : C.P.underlying t = some (.int kk) := by cases dd <;> simp [dOk] at hdk; rw [hd, hdk]
    simp only [Value.okWide, hd', Cell.okWide] at hv
    cases v <;> simp_all [Cell.ok, Value.oneCell']
   | bool =>
    refine hk ▸ one ?_ (by rw [hk]; rfl)
    rw [hk] at hdk
    have hd' : C.P.underlying t = some .bool := by cases dd <;> simp [dOk] at hdk; rw [hd]
    simp only [Value.okWide, hd', Cell.okWide] at hv
    cases v <;> simp_all [Cell.ok, Value.oneCell']
   | str =>
    refine hk ▸ one ?_ (by rw [hk]; rfl)
    rw [hk] at hdk
    have hd' : C.P.underlying t = some .string := by cases dd <;> simp [dOk] at hdk; rw [hd]
    obtain ⟨s, rfl⟩ := WideShapes.okWide_string hd' hv
    rfl
   | slice e =>
    refine hk ▸ one ?_ (by rw [hk]; rfl)
    rw [hk] at hdk
    have hd' : C.P.underlying t = some (.slice e) := by cases dd <;> simp [dOk] at hdk; rw [hd, hdk]
    obtain ⟨a, l, c, rfl⟩ := WideShapes.okWide_slice hd' hv
    rfl
   | _ => rw [hk] at hn; simp at hn
theorem law_calls [Dd] (hC : Prog C) {g : FuncId} {gn : Func} {c : Code} {ts : List TV} {out : Hp} (hg : C.P.funcs[g]? = some gn) (hc : gn.body = some c) (hr : lim C g gn [.c c] ⟨number ts 0, []⟩ = some (tf true, out)) {W : World} (hng : C.ng ≤ W.heap.size) (hgw : C.gw W) {vs : Array Value} (hsz : vs.size = ts.length)
    (h : ∀ (j : Nat) (t : TV), ts[j]? = some t → RepT W (fun _ => none) (lt' W) (lt' W) (vs.getD j undef) t) : Calls C.P g vs W (fun e W' => e = .returned (.bool true) ∧ Below W.heap.size W W') := by
 have hno : ∀ b, ¬ Own (fun _ => none) [] b := fun b ⟨o, ob, h1, _⟩ => by cases h1
 have M : Mem W (fun _ => False) (lt' W) [] W (fun _ => none) :=
  ⟨⟨rfl, rfl, rfl, Nat.le_refl _, fun _ _ _ => rfl, fun _ => Nat.le_refl _⟩, fun _ _ => rfl, fun b h => absurd h (hno b), fun _ _ _ _ _ h => (by cases h), fun _ _ _ _ _ h => (by cases h), fun b h => ⟨h, fun h => h⟩, fun _ h => h.elim, fun _ _ h => (by cases h)⟩
 obtain ⟨_, _, _, hs⟩ := lim_spec hC hg hc hr
 refine (hs W (fun _ => False) (lt' W) (fun _ => none) vs M ⟨fun _ h => h.elim, hng, hgw⟩ hsz (fun j t hj => (h j t hj).mono (fun _ _ h => h) (Keeps.refl _ _) (Keeps.refl _ _) (fun b hb => ⟨hb, hno b⟩) (fun b hb => ⟨⟨hb, hno b⟩, .inl hb⟩))).mono ?_
 rintro e W' ⟨v, mo, rfl, M', hv, _⟩
 obtain ⟨e, _⟩ := hv.scv
 subst e
 exact ⟨rfl, M'.fr.os, M'.fr.tape, M'.fr.output, M'.fr.size, fun k hk => M'.fr.block k hk (fun h => h)⟩
end
end Go.Pm
namespace Go.Pm
open Go
def rws {α : Type} (f : α → List PV) (l : List α) : List (List PV) := l.map f
section
variable {α : Type} (f : α → List PV) (l k : List α)
@[simp] theorem rws_nil : rws f ([] : List α) = [] := rfl
@[simp] theorem rws_len : (rws f l).length = l.length := by simp [rws]
@[simp] theorem rws_at [Dd] (i : Nat) (h : i < (rws f l).length) : (rws f l)[i]'h = f (l[i]'(by simpa using h)) := by simp [rws]
@[simp] theorem rws_take (i : Nat) : (rws f l).take i = rws f (l.take i) := by simp [rws]
@[simp] theorem rws_drop (i : Nat) : (rws f l).drop i = rws f (l.drop i) := by simp [rws]
@[simp] theorem rws_app : rws f l ++ rws f k = rws f (l ++ k) := by simp [rws]
@[simp] theorem rws_set (i : Nat) (a : α) : (rws f l).set i (f a) = rws f (l.set i a) := by simp [rws, List.map_set]
@[simp] theorem rws_rep (n : Nat) (a : α) : rws f (List.replicate n a) = List.replicate n (f a) := by simp [rws]
theorem rws_all {n : Nat} (h : ∀ a, (f a).length = n) : ∀ r ∈ rws f l, r.length = n := by
 intro r hr
 obtain ⟨a, _, rfl⟩ := List.mem_map.1 hr
 exact h a
end
def numP (k : IntKind) (n : Int) : List PV := [.sc (.int k n)]
abbrev nums (k : IntKind) (l : List Int) : List (List PV) := rws (numP k) l
attribute [simp] numP
theorem wrap_id' [Dd] {a : Int} (h : -9223372036854775808 ≤ a ∧ a ≤ 9223372036854775807) : IntKind.i64.wrap a = a := wrap_id h.1 h.2
@[simp] theorem wrap_zero : IntKind.i64.wrap 0 = 0 := rfl
@[simp] theorem wrap_one : IntKind.i64.wrap 1 = 1 := rfl
@[simp] theorem wrap_two : IntKind.i64.wrap 2 = 2 := rfl
@[simp] theorem wrap_m1 : IntKind.i64.wrap (-1) = -1 := rfl
def fillS {α : Type} (f : α → List PV) (z : List PV) (l : List α) (i : Nat) : List (List PV) := rws f (l.take i) ++ List.replicate (l.length - i) z
section
variable {α : Type} (f : α → List PV) (z : List PV) (l : List α)
@[simp] theorem fillS_len [Dd] (i : Nat) : (fillS f z l i).length = max (min i l.length) l.length := by simp [fillS]; omega
@[simp] theorem fillS_zero : fillS f z l 0 = List.replicate l.length z := by simp [fillS]
@[simp] theorem fillS_end : fillS f z l l.length = rws f l := by simp [fillS]
theorem fillS_at [Dd] (i : Nat) (h : i < l.length) : (fillS f z l i)[i]? = some z := by
 have h1 : (rws f (l.take i)).length = i := by simp; omega
 unfold fillS
 rw [List.getElem?_append_right (by omega), h1, List.getElem?_replicate, if_pos (by omega)]
@[simp] theorem fillS_get [Dd] (i : Nat) (h : i < (fillS f z l i).length) : (fillS f z l i)[i]'h = z := by
 have h' : i < l.length := by simp at h; omega
 have := fillS_at f z l i h'
 rw [List.getElem?_eq_getElem h] at this
 exact Option.some.inj this
theorem fillS_set [Dd] (i : Nat) (h : i < l.length) : (fillS f z l i).set i (f l[i]) = fillS f z l (i + 1) := by
 have h1 : (rws f (l.take i)).length = i := by simp; omega
 unfold fillS
 rw [List.set_append_right _ _ (by omega), h1, Nat.sub_self]
 have e : l.length - i = (l.length - (i + 1)) + 1 := by omega
 rw [e, List.replicate_succ, List.set_cons_zero, List.take_succ_eq_append_getElem h]
 simp only [rws, List.map_append, List.map_cons, List.map_nil, List.append_assoc, List.cons_append, List.nil_append]
end
def sets (tm : List (Nat × TV)) : List (Nat × TV) → List (Nat × TV)
 | [] => tm
 | (i, v) :: l => sets (put tm i v) l
attribute [simp] sets
structure Hid (p : Prop) : Prop where
 out : p
theorem loop_go [Dd] {C : Cfg} {f : FuncId} {fn : Func} {c : Code} {D : List Nat} {k : List It} {α : Type} {s s0 : St} (μ : α → Nat) (ov : α → List (Nat × TV)) (hpx : α → Hp) (R : α → Option Res) (ok : α → Prop) (x0 : α)
    (hc : canon D s = s0) (h0 : ok x0) (hs : s0 = ⟨sets s0.tm (ov x0), hpx x0⟩)
    (step : ∀ x, ok x → Hid (∀ y s', μ y < μ x → ok y → canon D s' = ⟨sets s0.tm (ov y), hpx y⟩ → lim C f fn (.lp c D :: k) s' = R y) → lim C f fn (.c c :: .lp c D :: k) ⟨sets s0.tm (ov x), hpx x⟩ = R x) :
    lim C f fn (.lp c D :: k) s = R x0 :=
 loop_ind μ (fun x => ⟨sets s0.tm (ov x), hpx x⟩) R ok (fun x hx ih => step x hx ⟨ih⟩) x0 s h0 (hc.trans hs)
theorem loop_to [Dd] {C : Cfg} {f : FuncId} {fn : Func} {c : Code} {D : List Nat} {id : Nat} {k : List It} {α : Type} {s s0 : St} (μ : α → Nat) (ov : α → List (Nat × TV)) (hpx : α → Hp) (R : α → (List (Nat × TV) → Hp → Option Res) → Option Res) (ok : α → Prop) (x0 : α)
    (hc : canon D s = s0) (h0 : ok x0) (hs : s0 = ⟨sets s0.tm (ov x0), hpx x0⟩)
    (step : ∀ k x, ok x → Hid (∀ y s', μ y < μ x → ok y → canon D s' = ⟨sets s0.tm (ov y), hpx y⟩ → lim C f fn (.lp c D :: .blk id :: k) s' = R y (fun o h => lim C f fn k ⟨sets s0.tm o, h⟩)) →
     lim C f fn (.c c :: .lp c D :: .blk id :: k) ⟨sets s0.tm (ov x), hpx x⟩ = R x (fun o h => lim C f fn k ⟨sets s0.tm o, h⟩)) :
    lim C f fn (.lp c D :: .blk id :: k) s = R x0 (fun o h => lim C f fn k ⟨sets s0.tm o, h⟩) :=
 loop_ind μ (fun x => ⟨sets s0.tm (ov x), hpx x⟩) (fun x => R x (fun o h => lim C f fn k ⟨sets s0.tm o, h⟩)) ok (fun x hx ih => step k x hx ⟨ih⟩) x0 s h0 (hc.trans hs)
def slT {α : Type} (o : Nat) : List α → TV
 | [] => .nl
 | a :: l => .ref o 0 (l.length + 1)
def slH {α : Type} (o e k : Nat) (f : α → List PV) : List α → Hp
 | [] => []
 | a :: l => [(o, .row .own e k (rws f (a :: l)))]
section
variable {α : Type} (o e k : Nat) (f : α → List PV) (a : α) (l m : List α)
@[simp] theorem slT_nil : slT o ([] : List α) = .nl := rfl
@[simp] theorem slT_cons : slT o (a :: l) = .ref o 0 (l.length + 1) := rfl
@[simp] theorem slH_nil : slH o e k f ([] : List α) = [] := rfl
@[simp] theorem slH_cons : slH o e k f (a :: l) = [(o, .row .own e k (rws f (a :: l)))] := rfl
end
@[simp] theorem rws_single {α : Type} (f : α → List PV) (a : α) : rws f [a] = [f a] := rfl
@[simp] theorem numP_snoc (k : IntKind) (l : List Int) (a : Int) : nums k l ++ [[.sc (.int k a)]] = nums k (l ++ [a]) := by simp [rws]
theorem drop_at {α : Type} {l : List α} {i : Nat} (h : i < l.length) : l.drop i = l[i] :: l.drop (i + 1) := List.drop_eq_getElem_cons h
theorem drop_end {α : Type} {l : List α} {i : Nat} (h : ¬ i < l.length) : l.drop i = [] := List.drop_eq_nil_of_le (by omega)
theorem take_at {α : Type} {l : List α} {i : Nat} (h : i < l.length) : l.take (i + 1) = l.take i ++ [l[i]] := List.take_succ_eq_append_getElem h
theorem spare_no {a b : Nat} (h : b ≤ a) : Spare a b = False := eq_false (Nat.not_lt.2 h)
@[simp] theorem spare_self (a : Nat) : Spare a a = False := spare_no (Nat.le_refl a)
end Go.Pm
namespace Go.Pm
open Go
section
variable {α : Type} {enc : α → List PV} {fin : List α → TV × List α} {zn : TV} {t k : Nat} {more : List TV}
end
theorem phi_ext {C : Cfg} {R : FuncId → Func → List It → St → Option Res} {g : FuncId} {ts : List TV} {hp : Hp} {r : Res} (h : C.ext g ts hp = some r) : phi C R g ts hp = some r := by unfold phi; rw [h]
end Go.Pm
namespace Go.Pm
open Go
noncomputable def upon (C : Cfg) (own : List Nat) (sg : FuncId → Sig) (att : Bool) : Cfg := ⟨C.P, C.T, sg, fun f ts hp => bif own.contains f then C.ext f ts hp else phi C (lim C) f ts hp, C.bs, C.ng, C.gw, att⟩
theorem phi_spec [Dd] {C : Cfg} (hC : Prog C) {f : FuncId} {ts : List TV} {hp : Hp} {r : TV} {out : Hp} (h : phi C (lim C) f ts hp = some (r, out)) : SpecF C f ts hp r out := by
 unfold phi at h
 split at h
 · rename_i x hx
   cases h
   exact hC.ext _ _ _ _ _ hx
 · split at h
   · rename_i gn hg
     split at h
     · rename_i c hc
       exact lim_spec hC hg hc h
     · cases h
   · cases h
theorem over_ok [Dd] {C : Cfg} {own : List Nat} {sg : FuncId → Sig} {att : Bool} (hC : Prog C) : Prog (upon C own sg att) :=
 ⟨hC.tab, hC.mixed, hC.name, hC.dsts, fun f ts hp r out h => by
  unfold upon at h
  dsimp only at h
  cases hc : own.contains f with
  | true => rw [hc] at h; exact hC.ext _ _ _ _ _ h
  | false => rw [hc] at h; exact phi_spec hC h, hC.gws⟩
theorem over_ext {C : Cfg} {own : List Nat} {sg : FuncId → Sig} {att : Bool} {f : FuncId} {ts : List TV} {hp : Hp} {r : Res} (h : phi C (lim C) f ts hp = some r) (hn : own.contains f = false) : (upon C own sg att).ext f ts hp = some r := by
 unfold upon
 dsimp only
 rw [hn]
 exact h
theorem over_own {C : Cfg} {own : List Nat} {sg : FuncId → Sig} {att : Bool} {f : FuncId} {ts : List TV} {hp : Hp} (h : C.ext f ts hp = none) (hn : own.contains f = true) : (upon C own sg att).ext f ts hp = none := by
 unfold upon
 dsimp only
 rw [hn]
 exact h
end Go.Pm
