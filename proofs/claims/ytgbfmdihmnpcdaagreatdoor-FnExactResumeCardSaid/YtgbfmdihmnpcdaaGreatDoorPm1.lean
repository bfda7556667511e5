/- The pure machine, part 1: an evaluator of the translation's code over plain data, and that it is sound. -/
import Derived.Below
import Derived.Calls
import Derived.IntWalk
import Derived.Laws.AppendOwn
import Derived.Laws.BytesArg
import Derived.Laws.Cells
import Derived.Laws.IdiomCopy
import Derived.Laws.StructEq
import Derived.Lib.AppendStr
import Derived.Orders
import Derived.WalkKit
set_option linter.unusedVariables false
set_option linter.unusedSimpArgs false
namespace Go.Pm
open Go
inductive PV where
 | sc (v : Value)
 | sl (rows : List (List PV))
 | pt (cells : List PV)
 | cl (f : FuncId) (caps : List PV)
inductive TV where
 | pv (b : Bool) (p : PV)
 | ud
 | nl
 | ag (cs : List TV)
 | ar (ps : List PV)
 | tu (cs : List TV)
 | ref (o off len : Nat)
 | bp (o off : Nat)
 | ep (o i j : Nat)
 | rp (cells : List PV)
 | fn (f : FuncId) (caps : List TV)
 | mv (f : FuncId) (cs : List TV)
 | er
 | nr (o : Nat) (π : List (Nat × Nat)) (off len : Nat)
 | np (o : Nat) (π : List (Nat × Nat)) (i j : Nat)
 | dv (s : Option Nat) (rows : List (List PV))
 | dp (s : Option Nat) (cells : List PV)
 | ap (o m : Nat)
abbrev iv (n : Int) : TV := .pv false (.sc (.int .i64 n))
abbrev bv (b : Bool) : TV := .pv false (.sc (.bool b))
def mkpv (b : Bool) : PV → TV
 | .sc v => .pv false (.sc v)
 | .sl rows => .pv b (.sl rows)
 | .pt cells => .pv b (.pt cells)
 | .cl f caps => .pv b (.cl f caps)
inductive RS where
 | own
 | fz
 | io
 deriving DecidableEq
inductive OB where
 | box (cs : List TV)
 | arr (ps : List PV)
 | row (st : RS) (e k : Nat) (rows : List (List PV))
 | tree (st : RS) (rows : List (List PV))
 | dat (cl : Bool)
 | dead
abbrev Hp := List (Nat × OB)
def look {α : Type} : List (Nat × α) → Nat → Option α
 | [], _ => none
 | (j, a) :: l, i => if i = j then some a else look l i
def wideT (e : Nat) : Bool := e == 162 || e == 69 || e == 67 || e == 126 || e == 48 || e == 25
attribute [simp] wideT
def put {α : Type} : List (Nat × α) → Nat → α → List (Nat × α)
 | [], i, a => [(i, a)]
 | (j, b) :: l, i, a => if i = j then (i, a) :: l else if i < j then (i, a) :: (j, b) :: l else (j, b) :: put l i a
structure St where
 tm : List (Nat × TV)
 hp : Hp
inductive TK where
 | int (k : IntKind)
 | bool
 | str
 | slice (e : Nat)
 | arr (n e : Nat)
 | struct (fs : List (Nat × Nat))
 | ptr (e : Nat)
 | ifc
 | other
structure TI where
 size : Nat
 bytes : Nat
 kind : TK
 zero : TV
def TK.agg : TK → Bool
 | .arr .. | .struct .. => true
 | _ => false
inductive RK where
 | any
 | d
 | own (e k : Nat)
 | tr
 | ag (l : List RK)
 | tu (l : List RK)
structure Sig where
 io : List Bool
 ret : RK
 fr : Bool := false
abbrev Res := TV × Hp
structure Cfg where
 P : Program
 T : Nat → Option TI
 sg : FuncId → Sig
 ext : FuncId → List TV → Hp → Option Res
 bs : List Nat
 ng : Nat
 gw : World → Prop
 att : Bool := false
def plain : Value → Bool
 | .bool _ | .int .. | .string _ | .pointer none | .nilFunc | .nilIface | .map none | .chan none => true
 | _ => false
def constTV : Value → Option TV
 | .slice none 0 0 => some .nl
 | .tuple vs => if vs.size = 0 then some (.tu []) else none
 | v => if plain v then some (.pv false (.sc v)) else none
def St.ev (s : St) : Operand → Option TV
 | .tmp t => look s.tm t
 | .const v => constTV v
 | .func f => some (.fn f [])
 | .global _ => none
def evs (s : St) : List Operand → Option (List TV)
 | [] => some []
 | x :: l => match s.ev x with
  | none => none
  | some t => match evs s l with
   | none => none
   | some ts => some (t :: ts)
def TV.int? : TV → Option (IntKind × Int)
 | .pv _ (.sc (.int k n)) => some (k, n)
 | _ => none
def TV.bool? : TV → Option Bool
 | .pv _ (.sc (.bool b)) => some b
 | _ => none
def TV.isCell : TV → Bool
 | .ag _ | .ar _ | .tu _ => false
 | _ => true
def TV.cells : TV → Option (List TV)
 | .ag cs => some cs
 | .ar _ | .tu _ | .ud => none
 | t => some [t]
def maxL : Nat := 9223372036854775807
def Spare (a b : Nat) : Prop := a < b
instance (a b : Nat) : Decidable (Spare a b) := inferInstanceAs (Decidable (a < b))
def tat (rows : List (List PV)) : List (Nat × Nat) → Option (List (List PV))
 | [] => some rows
 | (i, j) :: π => match rows[i]? with
  | some r => match r[j]? with
   | some (.sl rows') => tat rows' π
   | _ => none
  | none => none
def sub (rows : List (List PV)) (off len : Nat) : Option (List (List PV)) := if off + len ≤ rows.length then some ((rows.drop off).take len) else none
def rowsOf (hp : Hp) : TV → Option (List (List PV))
 | .nl => some []
 | .pv _ (.sl rows) => some rows
 | .ref o off len => match look hp o with
  | some (.row _ _ _ rows) => sub rows off len
  | _ => none
 | _ => none
def keep (hp : Hp) : TV → Option (PV × Hp)
 | .pv false p => some (p, hp)
 | .nl => some (.sl [], hp)
 | .ref o off len => match look hp o with
  | some (.row st e k rows) => if st = .io then (if len = 0 then some (.sl [], hp) else none) else match sub rows off len with
   | some l => some (.sl l, put hp o (.row .fz e k rows))
   | none => none
  | _ => none
 | .nr o π off len => match look hp o with
  | some (.tree .own rows) => if π = [] ∧ off = 0 ∧ len = rows.length then some (.sl rows, put hp o .dead) else none
  | _ => none
 | _ => none
def keeps (hp : Hp) : List TV → Option (List PV × Hp)
 | [] => some ([], hp)
 | t :: l => match keep hp t with
  | none => none
  | some (p, hp') => match keeps hp' l with
   | none => none
   | some (ps, hp'') => some (p :: ps, hp'')
def dataOf : List TV → Option (List PV)
 | [] => some []
 | .pv _ p :: l => match dataOf l with
  | some ps => some (p :: ps)
  | none => none
 | _ => none
mutual
def view (hp : Hp) (ex : List Nat) : Nat → TV → Option TV
 | 0, _ => none
 | _ + 1, .pv b p => some (.pv b p)
 | _ + 1, .nl => some (.pv false (.sl []))
 | n + 1, .ag cs => match viewP hp ex n cs with | some l => some (.ag l) | none => none
 | _ + 1, .ar ps => some (.ar ps)
 | _ + 1, .ref o off len => if ex.contains o then none else match look hp o with
  | some (.row st _ _ rows) => match sub rows off len with
   | some l => some (.pv (decide (st ≠ .fz)) (.sl l))
   | none => none
  | _ => none
 | n + 1, .bp o off => if ex.contains o then none else match look hp o with
  | some (.box cs) => match viewP hp ex n (cs.drop off) with | some l => (match dataOf l with | some ps => some (.pv true (.pt ps)) | none => none) | none => none
  | some (.arr ps) => some (.pv true (.pt (ps.drop off)))
  | _ => none
 | _ + 1, .rp cells => some (.pv true (.pt cells))
 | _ + 1, .dv none rows => some (.dv none rows)
 | _ + 1, .nr o π off len => if ex.contains o then none else match look hp o with
  | some (.tree _ rows) => match tat rows π with
   | some rs => if off = 0 ∧ len = rs.length then some (.dv none rs) else none
   | none => none
  | _ => none
 | n + 1, .fn f caps => match viewP hp ex n caps with | some l => (match dataOf l with | some ps => some (.pv true (.cl f ps)) | none => none) | none => none
 | _ + 1, _ => none
def viewP (hp : Hp) (ex : List Nat) : Nat → List TV → Option (List TV)
 | 0, _ => none
 | _ + 1, [] => some []
 | n + 1, t :: l => match view hp ex n t with
  | some (.pv b p) => match viewP hp ex n l with
   | none => none
   | some xs => some (.pv b p :: xs)
  | some (.dv o rows) => match viewP hp ex n l with
   | none => none
   | some xs => some (.dv o rows :: xs)
  | _ => none
end
def pureSem {α : Type} : Sem α → Option α
 | .pure a => some a
 | _ => none
def binSc (k : TK) (op : BinOp) : Value → Value → Option Value
 | .int ka a, .int kb b => pureSem (binOp op 0 (.int ka a) (.int kb b))
 | .string a, .string b => pureSem (Op.stringOp op a b)
 | .bool a, .bool b => match k with
  | .bool => if op = .eql then some (.bool (a == b)) else if op = .neq then some (.bool (a != b)) else none
  | _ => none
 | _, _ => none
def eqTy (P : Program) (t : Nat) : Bool := !P.stoodInHeld t && !P.eqGuardType P.depth t && (P.fieldsOf t).toList.all fun f => f.name != "_"
def eqFs (T : Nat → Option TI) : List (Nat × Nat) → List TV → List TV → Option Bool
 | [], _, _ => some true
 | (off, ft) :: fs, cs, ds => match T ft, cs[off]?, ds[off]? with
  | some { kind := .int _, .. }, some (.pv _ (.sc (.int k a))), some (.pv _ (.sc (.int k' b))) => if k = k' then (match eqFs T fs cs ds with | some r => some (decide (a = b) && r) | none => none) else none
  | some { kind := .bool, .. }, some (.pv _ (.sc (.bool a))), some (.pv _ (.sc (.bool b))) => match eqFs T fs cs ds with | some r => some ((a == b) && r) | none => none
  | _, _, _ => none
def nilEq : TK → BinOp → Operand → Value → Value → Option TV
 | .ifc, op, .const .nilIface, .nilIface, .nilIface => if op = .eql then some (.pv false (.sc (.bool true))) else if op = .neq then some (.pv false (.sc (.bool false))) else none
 | _, _, _, _, _ => none
def erEq (op : BinOp) : Option TV := if op = .eql then some (.pv false (.sc (.bool false))) else if op = .neq then some (.pv false (.sc (.bool true))) else none
def bytesOf : List (List PV) → Option (List Int)
 | [] => some []
 | [.sc (.int .u8 n)] :: l => match bytesOf l with
  | some ns => some (n :: ns)
  | none => none
 | _ => none
def pureOp (C : Cfg) (s : St) : Op → Option TV
 | .move x | .assign x => s.ev x
 | .binOp op t x y _ => match C.T t, s.ev x, s.ev y with
  | some ti, some (.pv _ (.sc a)), some (.pv _ (.sc b)) => match binSc ti.kind op a b with
   | some v => if plain v then some (.pv false (.sc v)) else none
   | none => nilEq ti.kind op y a b
  | some { kind := .ifc, .. }, some .er, some (.pv _ (.sc .nilIface)) => erEq op
  | some { kind := .struct fs, .. }, some (.ag cs), some (.ag ds) => if op = .eql ∧ eqTy C.P t = true then (match eqFs C.T fs cs ds with | some r => some (.pv false (.sc (.bool r))) | none => none) else none
  | _, _, _ => none
 | .unOp op _ x => match s.ev x with
  | some (.pv _ (.sc a)) => match pureSem (Op.unary op a) with
   | some v => if plain v then some (.pv false (.sc v)) else none
   | none => none
  | _ => none
 | .extract x i => match s.ev x with
  | some (.tu ts) => ts[i]?
  | _ => none
 | .field t x i => match C.T t, s.ev x with
  | some { kind := .struct fs, .. }, some (.ag cs) => match fs[i]? with
   | some (off, ft) => match C.T ft with
    | some fi => if fi.kind.agg then (if off + fi.size ≤ cs.length then some (.ag ((cs.drop off).take fi.size)) else none) else cs[off]?
    | none => none
   | none => none
  | _, _ => none
 | .fieldAddr t x i => match C.T t, s.ev x with
  | some { kind := .struct fs, .. }, some a => match fs[i]? with
   | some (off, _) => match a with
    | .bp o j => some (.bp o (j + off))
    | .ep o i j => some (.ep o i (j + off))
    | .rp cells => some (.rp (cells.drop off))
    | .pv b (.pt cells) => some (.pv b (.pt (cells.drop off)))
    | .np o π i j => some (.np o π i (j + off))
    | .dp o cells => some (.dp o (cells.drop off))
    | _ => none
   | none => none
  | _, _ => none
 | .indexAddr t x i => match C.T t, s.ev x, s.ev i with
  | some { kind := .slice e, .. }, some a, some (.pv _ (.sc (.int _ n))) => match C.T e, a with
   | some ei, .ref o off len => match look s.hp o with
    | some (.row _ _ k _) => if 0 ≤ n ∧ n < len ∧ k = ei.size then some (.ep o (off + n.toNat) 0) else none
    | _ => none
   | some ei, .pv _ (.sl rows) => if 0 ≤ n then (match rows[n.toNat]? with
    | some r => if r.length = ei.size then some (.rp r) else none
    | none => none) else none
   | some ei, .nr o π off len => match look s.hp o with
    | some (.tree _ rows) => match tat rows π with
     | some rs => if 0 ≤ n ∧ n < len then (match rs[off + n.toNat]? with
      | some r => if r.length = ei.size then some (.np o π (off + n.toNat) 0) else none
      | none => none) else none
     | none => none
    | _ => none
   | some ei, .dv o rows => if 0 ≤ n then (match rows[n.toNat]? with
    | some r => if r.length = ei.size then some (.dp o r) else none
    | none => none) else none
   | _, _ => none
  | some { kind := .arr m e, .. }, some a, some (.pv _ (.sc (.int _ n))) => match C.T e, a with
   | some ei, .bp o off => if 0 ≤ n ∧ n < m then some (.bp o (off + n.toNat * ei.size)) else none
   | some ei, .pv b (.pt cells) => if 0 ≤ n ∧ n < m then some (.pv b (.pt (cells.drop (n.toNat * ei.size)))) else none
   | _, _ => none
  | _, _, _ => none
 | .index t x i => match C.T t, s.ev x, s.ev i with
  | some { kind := .arr m e, .. }, some (.ar ps), some (.pv _ (.sc (.int _ n))) => match C.T e with
   | some { kind := k, size := 1, .. } => if k.agg = false ∧ 0 ≤ n ∧ n < m then (match ps[n.toNat]? with | some p => some (.pv false p) | none => none) else none
   | _ => none
  | some { kind := .str, .. }, some (.pv _ (.sc (.string b))), some (.pv _ (.sc (.int _ n))) => if 0 ≤ n then (match b[n.toNat]? with | some c => some (.pv false (.sc (.int .u8 c.toNat))) | none => none) else none
  | _, _, _ => none
 | .slice t x lo hi none => match C.T t, s.ev x, bound s lo 0 with
  | some { kind := .slice e, .. }, some (.ref o off len), some l => match look s.hp o, C.T e, bound s hi len with
   | some (.row _ _ k rows), some ei, some h => if 0 ≤ l ∧ l ≤ h ∧ h ≤ len ∧ k = ei.size then some (.ref o (off + l.toNat) (h.toNat - l.toNat)) else
    if 0 ≤ l ∧ l ≤ h ∧ off + h.toNat ≤ rows.length ∧ k = ei.size then some (.ref o (off + l.toNat) (h.toNat - l.toNat)) else none
   | _, _, _ => none
  | some { kind := .slice e, .. }, some (.pv b (.sl rows)), some l => match C.T e, bound s hi rows.length with
   | some ei, some h => if 0 ≤ l ∧ l ≤ h ∧ h ≤ rows.length ∧ ∀ r ∈ rows, r.length = ei.size then some (.pv b (.sl ((rows.drop l.toNat).take (h.toNat - l.toNat)))) else none
   | _, _ => none
  | some { kind := .slice e, .. }, some .nl, some l => match C.T e, bound s hi 0 with
   | some _, some h => if l = 0 ∧ h = 0 then some .nl else none
   | _, _ => none
  | some { kind := .arr m e, .. }, some (.ap o m'), some _ => match lo, look s.hp o, C.T e, bound s hi m with
   | none, some (.row _ _ k _), some ei, some h => if 0 ≤ h ∧ h ≤ m ∧ m = m' ∧ k = ei.size then some (.ref o 0 h.toNat) else none
   | _, _, _, _ => none
  | some { kind := .str, .. }, some (.pv _ (.sc (.string b))), some l => match bound s hi b.size with
   | some h => if 0 ≤ l ∧ l ≤ h ∧ h ≤ b.size then some (.pv false (.sc (.string (b.extract l.toNat h.toNat)))) else none
   | none => none
  | _, _, _ => none
 | .slice t x (some lo) (some hi) (some mx) => match C.T t, s.ev x, s.ev lo, s.ev hi, s.ev mx with
  | some { kind := .slice e, .. }, some (.ref _ _ len), some (.pv _ (.sc (.int _ l))), some (.pv _ (.sc (.int _ h))), some (.pv _ (.sc (.int _ m))) => match C.T e with
   | some _ => if 0 ≤ l ∧ l ≤ h ∧ h ≤ m ∧ m ≤ len then some .ud else none
   | none => none
  | _, _, _, _, _ => none
 | .nilCheck x => match s.ev x with
  | some (.bp o j) => some (.bp o j)
  | some (.ep o i j) => some (.ep o i j)
  | some (.rp cells) => some (.rp cells)
  | some (.pv b (.pt cells)) => some (.pv b (.pt cells))
  | some (.fn f caps) => some (.fn f caps)
  | some (.mv f cs) => some (.mv f cs)
  | some (.pv b (.cl f caps)) => some (.pv b (.cl f caps))
  | some (.np o π i j) => some (.np o π i j)
  | some (.dp o cells) => some (.dp o cells)
  | _ => none
 | .convert src dst x => match C.T src, C.T dst, s.ev x with
  | some _, some { kind := .int k, .. }, some (.pv _ (.sc (.int _ n))) => some (.pv false (.sc (.int k (k.wrap n))))
  | some _, some { kind := .str, .. }, some (.pv _ (.sc (.string b))) => some (.pv false (.sc (.string b)))
  | some { kind := .slice e, .. }, some { kind := .str, .. }, some v => match C.T e, rowsOf s.hp v with
   | some { kind := .int .u8, size := 1, .. }, some rows => match bytesOf rows with
    | some ns => some (.pv false (.sc (.string (strOfNums ns))))
    | none => none
   | _, _ => none
  | _, _, _ => none
 | .makeFunc (.func f) first caps => if first = #[] then (match evs s caps.toList with | some l => some (.fn f l) | none => none) else if caps = #[] then (match evs s first.toList with | some l => some (.mv f l) | none => none) else none
 | .build t parts => match C.T t with
  | some { kind := .struct fs, zero := .ag z, .. } => buildUp C fs z (parts.toList) s
  | some { kind := .arr _ e, zero := .ar z, .. } => match C.T e with
   | some _ => if parts.size = 0 then some (.ar z) else none
   | none => none
  | _ => none
 | .call { callee := .builtin .len, args := args, argTypes := ts } => match args.toList, ts.toList with
  | [x], [t] => match C.T t, s.ev x with
   | some { kind := .slice _, .. }, some .nl => some (.pv false (.sc (.int .i64 0)))
   | some { kind := .slice _, .. }, some (.ref _ _ len) => some (.pv false (.sc (.int .i64 len)))
   | some { kind := .slice _, .. }, some (.pv _ (.sl rows)) => some (.pv false (.sc (.int .i64 rows.length)))
   | some { kind := .str, .. }, some (.pv _ (.sc (.string b))) => some (.pv false (.sc (.int .i64 b.size)))
   | some { kind := .slice _, .. }, some (.nr _ _ _ len) => some (.pv false (.sc (.int .i64 len)))
   | some { kind := .slice _, .. }, some (.dv _ rows) => some (.pv false (.sc (.int .i64 rows.length)))
   | _, _ => none
  | _, _ => none
 | .call { callee := .builtin .max, args := args, .. } => match args.toList with
  | [x, y] => match s.ev x, s.ev y with
   | some (.pv _ (.sc (.int k a))), some (.pv _ (.sc (.int _ b))) => some (.pv false (.sc (.int k (if b > a then b else a))))
   | _, _ => none
  | _ => none
 | .call { callee := .builtin .min, args := args, .. } => match args.toList with
  | [x, y] => match s.ev x, s.ev y with
   | some (.pv _ (.sc (.int k a))), some (.pv _ (.sc (.int _ b))) => some (.pv false (.sc (.int k (if b < a then b else a))))
   | _, _ => none
  | _ => none
 | _ => none
where
 bound (s : St) : Option Operand → Nat → Option Int
  | none, n => some n
  | some x, _ => match s.ev x with
   | some (.pv _ (.sc (.int _ n))) => some n
   | _ => none
 buildUp (C : Cfg) (fs : List (Nat × Nat)) (z : List TV) : List (Nat × Operand) → St → Option TV
  | [], _ => some (.ag z)
  | (i, x) :: l, s => match fs[i]?, s.ev x with
   | some (off, ft), some v => match C.T ft, v.cells with
    | some fi, some vs => if vs.length = fi.size ∧ off + fi.size ≤ z.length then buildUp C fs (z.take off ++ vs ++ z.drop (off + vs.length)) l s else none
    | _, _ => none
   | _, _ => none
end Go.Pm
namespace Go.Pm
open Go
def tset (rows : List (List PV)) : List (Nat × Nat) → List (List PV) → List (List PV)
 | [], new => new
 | (i, j) :: π, new => match rows[i]? with
  | some r => match r[j]? with
   | some (.sl rs) => rows.set i (r.set j (.sl (tset rs π new)))
   | _ => rows
  | none => rows
theorem tat_cons {rows : List (List PV)} {i j : Nat} {π : List (Nat × Nat)} {rs : List (List PV)} : tat rows ((i, j) :: π) = some rs ↔ ∃ r rs0, rows[i]? = some r ∧ r[j]? = some (.sl rs0) ∧ tat rs0 π = some rs := by
 constructor
 · intro h
   simp only [tat] at h
   split at h
   · rename_i r hr
     split at h
     · rename_i rs0 hj; exact ⟨r, rs0, hr, hj, h⟩
     · cases h
   · cases h
 · rintro ⟨r, rs0, h1, h2, h3⟩
   simp only [tat, h1, h2, h3]
theorem tat_append {rows : List (List PV)} {π π' : List (Nat × Nat)} {rs : List (List PV)} : tat rows (π ++ π') = some rs ↔ ∃ rs0, tat rows π = some rs0 ∧ tat rs0 π' = some rs := by
 induction π generalizing rows with
 | nil => simp [tat]
 | cons x π ih =>
  obtain ⟨i, j⟩ := x
  rw [List.cons_append, tat_cons]
  constructor
  · rintro ⟨r, rs0, h1, h2, h3⟩
    obtain ⟨rs1, h4, h5⟩ := ih.1 h3
    exact ⟨rs1, tat_cons.2 ⟨r, rs0, h1, h2, h4⟩, h5⟩
  · rintro ⟨rs1, h4, h5⟩
    obtain ⟨r, rs0, h1, h2, h3⟩ := tat_cons.1 h4
    exact ⟨r, rs0, h1, h2, ih.2 ⟨rs1, h3, h5⟩⟩
def Like : PV → PV → Prop
 | .sc _, .sc _ => True
 | .sl a, .sl b => a.length = b.length
 | .pt a, .pt b => a = b
 | .cl f a, .cl g b => f = g ∧ a = b
 | _, _ => False
def LikeR (rs rs' : List (List PV)) : Prop := rs.length = rs'.length ∧ ∀ (i : Nat) (r' : List PV), rs'[i]? = some r' → ∃ r, rs[i]? = some r ∧ r.length = r'.length ∧ ∀ (j : Nat) (p' : PV), r'[j]? = some p' → ∃ p, r[j]? = some p ∧ Like p p'
theorem Like.refl (p : PV) : Like p p := by cases p <;> simp [Like]
theorem LikeR.refl (rs : List (List PV)) : LikeR rs rs := ⟨rfl, fun i r h => ⟨r, h, rfl, fun j p hp => ⟨p, hp, Like.refl p⟩⟩⟩
theorem tat_tset {rows new rs : List (List PV)} {π : List (Nat × Nat)} (h : tat rows π = some rs) (hl : rs.length = new.length) : ∀ {π' : List (Nat × Nat)} {rs' : List (List PV)}, tat (tset rows π new) π' = some rs' →
    (∃ π2, π' = π ++ π2 ∧ tat new π2 = some rs') ∨ (∃ rs0, tat rows π' = some rs0 ∧ LikeR rs0 rs' ∧ (∀ (i : Nat) (r' : List PV) (j : Nat) (p' : PV), rs'[i]? = some r' → r'[j]? = some p' → (∀ q : List (List PV), p' ≠ PV.sl q) → ∃ r : List PV, rs0[i]? = some r ∧ r[j]? = some p') ∧ ∀ π2, π' ≠ π ++ π2) := by
 induction π generalizing rows with
 | nil =>
  intro π' rs' h'
  exact .inl ⟨π', rfl, h'⟩
 | cons x π ih =>
  obtain ⟨i, j⟩ := x
  obtain ⟨r, rs0, h1, h2, h3⟩ := tat_cons.1 h
  have hset : tset rows ((i, j) :: π) new = rows.set i (r.set j (.sl (tset rs0 π new))) := by simp only [tset, h1, h2]
  have hlen : rs0.length = (tset rs0 π new).length := by
   cases π with
   | nil => simp only [tat] at h3; cases h3; exact hl
   | cons y π =>
    obtain ⟨i2, j2⟩ := y
    obtain ⟨r2, rs2, g1, g2, _⟩ := tat_cons.1 h3
    simp [tset, g1, g2]
  have hi : i < rows.length := (List.getElem?_eq_some_iff.1 h1).1
  have hj : j < r.length := (List.getElem?_eq_some_iff.1 h2).1
  intro π' rs' h'
  rw [hset] at h'
  cases π' with
  | nil =>
   simp only [tat] at h'
   cases h'
   refine .inr ⟨rows, rfl, ⟨by simp, fun i' r' hr' => ?_⟩, fun i' r' j' p' hr' hp' hn => ?_, fun π2 => by simp⟩
   · by_cases e : i = i'
     · subst e
       rw [List.getElem?_set_self hi] at hr'
       cases hr'
       refine ⟨r, h1, by simp, fun j' p' hp' => ?_⟩
       by_cases e : j = j'
       · subst e
         rw [List.getElem?_set_self hj] at hp'
         cases hp'
         exact ⟨_, h2, hlen⟩
       · rw [List.getElem?_set_ne e] at hp'
         exact ⟨p', hp', Like.refl p'⟩
     · rw [List.getElem?_set_ne e] at hr'
       exact ⟨r', hr', rfl, fun j' p' hp' => ⟨p', hp', Like.refl p'⟩⟩
   · by_cases e : i = i'
     · subst e
       rw [List.getElem?_set_self hi] at hr'
       cases hr'
       by_cases e : j = j'
       · subst e
         rw [List.getElem?_set_self hj] at hp'
         cases hp'
         exact absurd rfl (hn _)
       · rw [List.getElem?_set_ne e] at hp'
         exact ⟨r, h1, hp'⟩
     · rw [List.getElem?_set_ne e] at hr'
       exact ⟨r', hr', hp'⟩
  | cons y π' =>
   obtain ⟨i', j'⟩ := y
   obtain ⟨r', rs1, g1, g2, g3⟩ := tat_cons.1 h'
   by_cases e : i = i'
   · subst e
     rw [List.getElem?_set_self hi] at g1
     cases g1
     by_cases e : j = j'
     · subst e
       rw [List.getElem?_set_self hj] at g2
       cases g2
       rcases ih h3 g3 with ⟨π2, rfl, k⟩ | ⟨rs2, k1, k2, k3, k4⟩
       · exact .inl ⟨π2, rfl, k⟩
       · exact .inr ⟨rs2, tat_cons.2 ⟨r, rs0, h1, h2, k1⟩, k2, k3, fun π2 e => k4 π2 (by simpa using e)⟩
     · rw [List.getElem?_set_ne e] at g2
       exact .inr ⟨rs', tat_cons.2 ⟨r, rs1, h1, g2, g3⟩, LikeR.refl _, fun _ r0 _ _ a b _ => ⟨r0, a, b⟩, fun π2 e' => e (by simp at e'; exact e'.1.symm)⟩
   · rw [List.getElem?_set_ne e] at g1
     exact .inr ⟨rs', tat_cons.2 ⟨r', rs1, g1, g2, g3⟩, LikeR.refl _, fun _ r0 _ _ a b _ => ⟨r0, a, b⟩, fun π2 e' => e (by simp at e'; exact e'.1.1.symm)⟩
theorem tset_tat {rows new rs : List (List PV)} {π : List (Nat × Nat)} (h : tat rows π = some rs) (hn : ∀ π2 rs2, tat rs π2 = some rs2 → ∃ rs3, tat new π2 = some rs3) : ∀ {π' : List (Nat × Nat)} {rs' : List (List PV)}, tat rows π' = some rs' → ∃ rs3, tat (tset rows π new) π' = some rs3 := by
 induction π generalizing rows with
 | nil => intro π' rs' h'; simp only [tat] at h; cases h; exact hn _ _ h'
 | cons x π ih =>
  obtain ⟨i, j⟩ := x
  obtain ⟨r, rs0, h1, h2, h3⟩ := tat_cons.1 h
  have hset : tset rows ((i, j) :: π) new = rows.set i (r.set j (.sl (tset rs0 π new))) := by simp only [tset, h1, h2]
  have hi : i < rows.length := (List.getElem?_eq_some_iff.1 h1).1
  have hj : j < r.length := (List.getElem?_eq_some_iff.1 h2).1
  intro π' rs' h'
  rw [hset]
  cases π' with
  | nil => exact ⟨_, rfl⟩
  | cons y π' =>
   obtain ⟨i', j'⟩ := y
   obtain ⟨r', rs1, g1, g2, g3⟩ := tat_cons.1 h'
   by_cases e : i = i'
   · subst e
     rw [h1] at g1
     cases g1
     by_cases e : j = j'
     · subst e
       rw [h2] at g2
       cases g2
       obtain ⟨rs3, k⟩ := ih h3 g3
       exact ⟨rs3, tat_cons.2 ⟨_, _, List.getElem?_set_self hi, List.getElem?_set_self hj, k⟩⟩
     · exact ⟨rs', tat_cons.2 ⟨_, rs1, List.getElem?_set_self hi, by rw [List.getElem?_set_ne e]; exact g2, g3⟩⟩
   · exact ⟨rs', tat_cons.2 ⟨r', rs1, by rw [List.getElem?_set_ne e]; exact g1, g2, g3⟩⟩
end Go.Pm
namespace Go.Pm
open Go
def nid (d c : Nat) : Nat := (d * 8 + c) * 2 + 17
def cid (i : Nat) : Nat := 16 + 2 * i
def add (hp : Hp) (id : Nat) (ob : OB) : Option Hp := if 16 ≤ id then (match look hp id with
 | none => some (put hp id ob)
 | some _ => none) else none
def nrv (o : Nat) (π : List (Nat × Nat)) (i j : Nat) : PV → TV
 | .sc v => .pv false (.sc v)
 | .sl rs => .nr o (π ++ [(i, j)]) 0 rs.length
 | _ => .ud
def nrs (o : Nat) (π : List (Nat × Nat)) (i : Nat) : Nat → List PV → List TV
 | _, [] => []
 | j, p :: l => nrv o π i j p :: nrs o π i (j + 1) l
def dvc (cl : Bool) (s : Option Nat) : PV → TV
 | .sc v => bif cl then .pv false (.sc v) else .ud
 | .sl rows => .dv s rows
 | _ => .ud
def dcl (hp : Hp) : Option Nat → Option Bool
 | none => some true
 | some o => match look hp o with
  | some (.dat cl) => some cl
  | _ => none
def loadAt (hp : Hp) (ti : TI) : TV → Option TV
 | .bp o off => match look hp o with
  | some (.box cs) => if ti.kind.agg then (if off + ti.size ≤ cs.length then some (.ag ((cs.drop off).take ti.size)) else none) else cs[off]?
  | some (.arr ps) => if ti.kind.agg then (if off = 0 ∧ ti.size = ps.length then some (.ar ps) else none) else (match ps[off]? with | some p => some (.pv false p) | none => none)
  | _ => none
 | .ep o i j => match look hp o with
  | some (.row _ _ _ rows) => match rows[i]? with
   | some r => if ti.kind.agg then (if j + ti.size ≤ r.length then some (.ag (((r.drop j).take ti.size).map (TV.pv false))) else none) else (match r[j]? with | some p => some (.pv false p) | none => none)
   | none => none
  | _ => none
 | .rp cells => if ti.kind.agg then (if ti.size ≤ cells.length then some (.ag ((cells.take ti.size).map (TV.pv false))) else none) else (match cells[0]? with | some p => some (.pv false p) | none => none)
 | .np o π i j => match look hp o with
  | some (.tree _ rows) => match tat rows π with
   | some rs => match rs[i]? with
    | some r => if ti.kind.agg then (if j + ti.size ≤ r.length then some (.ag (nrs o π i j ((r.drop j).take ti.size))) else none) else (match r[j]? with | some p => some (nrv o π i j p) | none => none)
    | none => none
   | none => none
  | _ => none
 | .pv b (.pt cells) => if ti.kind.agg then (if ti.size ≤ cells.length then some (.ag ((cells.take ti.size).map (mkpv b))) else none) else (match cells[0]? with | some p => some (mkpv b p) | none => none)
 | .dp s cells => match dcl hp s with
  | some cl => if ti.kind.agg then (if ti.size ≤ cells.length then some (.ag ((cells.take ti.size).map (dvc cl s))) else none) else (match cells[0]? with | some p => some (dvc cl s p) | none => none)
  | none => none
 | _ => none
def splice {α : Type} (l : List α) (off : Nat) (new : List α) : List α := l.take off ++ new ++ l.drop (off + new.length)
def PV.isSc : PV → Bool
 | .sc _ => true
 | _ => false
def plainC : List TV → Option (List PV)
 | [] => some []
 | .pv _ (.sc v) :: l => match plainC l with
  | some ps => some (.sc v :: ps)
  | none => none
 | _ => none
def storeAt (hp : Hp) (ti : TI) (v : TV) : TV → Option Hp
 | .bp o off => match look hp o with
  | some (.box cs) => match v.cells with
   | some vs => if vs.length = ti.size ∧ off + ti.size ≤ cs.length then some (put hp o (.box (splice cs off vs))) else none
   | none => none
  | some (.arr ps) => match v with
   | .ar qs => if off = 0 ∧ qs.length = ps.length ∧ ti.size = ps.length then some (put hp o (.arr qs)) else none
   | .pv false p => if off < ps.length ∧ ti.size = 1 then some (put hp o (.arr (splice ps off [p]))) else none
   | _ => none
  | _ => none
 | .ep o i j => match v.cells with
  | some vs => match keeps hp vs with
   | some (new, hp') => match look hp' o with
    | some (.row st e k rows) => match rows[i]? with
     | some r => if st ≠ .fz ∧ new.length = ti.size ∧ j + ti.size ≤ r.length then some (put hp' o (.row st e k (rows.set i (splice r j new)))) else none
     | none => none
    | _ => none
   | none => none
  | none => none
 | .np o π i j => match v.cells with
  | some vs => match plainC vs with
   | some new => match look hp o with
    | some (.tree st rows) => match tat rows π with
     | some rs => match rs[i]? with
      | some r => if new.length = ti.size ∧ j + ti.size ≤ r.length ∧ ((r.drop j).take ti.size).all PV.isSc = true then some (put hp o (.tree st (tset rows π (rs.set i (splice r j new))))) else none
      | none => none
     | none => none
    | _ => none
   | none => none
  | none => none
 | .dp (some o) cells => match v.cells with
  | some vs => match plainC vs with
   | some new => match look hp o with
    | some (.dat false) => if new.length = ti.size ∧ 0 < ti.size ∧ ti.size ≤ cells.length ∧ (cells.take ti.size).all PV.isSc = true then some (put hp o (.dat false)) else none
    | _ => none
   | none => none
  | none => none
 | _ => none
def boxOf : TV → Option OB
 | .ar ps => some (.arr ps)
 | t => match t.cells with
  | some cs => some (.box cs)
  | none => none
def roomBytes : Nat := 140737488355328
def fillRows (C : Cfg) (s : St) (k : Nat) : Hp → List (List PV) → List (Nat × Operand) → Option (List (List PV) × Hp)
 | hp, rows, [] => some (rows, hp)
 | hp, rows, (i, x) :: l => match s.ev x with
  | none => none
  | some v => match v.cells with
   | none => none
   | some vs => match keeps hp vs with
    | none => none
    | some (new, hp') => if new.length = k ∧ i < rows.length then fillRows C s k hp' (rows.set i new) l else none
def zeroCells : List TV → Option (List PV)
 | [] => some []
 | .nl :: l => match zeroCells l with
  | some ps => some (.sl [] :: ps)
  | none => none
 | .pv false p :: l => match zeroCells l with
  | some ps => some (p :: ps)
  | none => none
 | _ => none
def zeroRow (z : TV) : Option (List PV) := match z.cells with
 | some cs => zeroCells cs
 | none => none
def arrRow (C : Cfg) (ti : TI) : Option (List (List PV)) := match ti.kind, ti.zero with
 | .arr _ e, .ar ps => match C.T e with
  | some { kind := .int .u8, .. } => if 0 < ps.length then some (ps.map fun p => [p]) else none
  | _ => none
 | _, _ => none
def asTree (hp : Hp) : TV → Option (Nat × RS × List (List PV))
 | .ref o off len => match look hp o with
  | some (.row st e k rows) => if st ≠ .fz ∧ off = 0 ∧ len = rows.length ∧ (rows.all fun r => r.all PV.isSc) = true ∧ (k = 1 ∨ wideT e = true) then some (o, st, rows) else none
  | _ => none
 | .nr o π off len => match look hp o with
  | some (.tree st rows) => if π = [] ∧ off = 0 ∧ len = rows.length then some (o, st, rows) else none
  | _ => none
 | _ => none
def absorbC (hp : Hp) : TV → Option (PV × Bool × Hp)
 | .pv _ (.sc v) => some (.sc v, true, hp)
 | .nl => some (.sl [], true, hp)
 | t => match asTree hp t with
  | some (o, st, rows) => some (.sl rows, decide (st = .own), put hp o .dead)
  | none => none
def absorbs (hp : Hp) : List TV → Option (List PV × Bool × Hp)
 | [] => some ([], true, hp)
 | t :: l => match absorbC hp t with
  | some (p, b, hp1) => match absorbs hp1 l with
   | some (ps, b', hp2) => some (p :: ps, b && b', hp2)
   | none => none
  | none => none
def TV.isNr (att : Bool) : TV → Bool
 | .nr .. => true
 | .ref .. => att
 | _ => false
def treeRow (att : Bool) (s : St) (e : Nat) (ei : TI) (len : Nat) : List (Nat × Operand) → Option (List PV × Bool × Hp)
 | [(0, x)] => match s.ev x with
  | some v => match v.cells with
   | some vs => bif vs.any (TV.isNr att) then (if len = 1 ∧ vs.length = ei.size ∧ 0 < ei.size ∧ ei.size ≤ 16777216 ∧ (ei.size = 1 ∨ wideT e = true) then absorbs s.hp vs else none) else none
   | none => none
  | none => none
 | _ => none
def kOk (hp : Hp) (o k : Nat) : Bool := match look hp o with
 | some (.row _ _ k' _) => Nat.beq k' k
 | some (.tree _ rows) => !rows.isEmpty
 | _ => false
def bothOwn : RS → RS → RS
 | .own, .own => .own
 | _, _ => .io
def treeApp (hp : Hp) (d e : Nat) (ei : TI) : TV → TV → Option (TV × Hp)
 | dst, .nr q π off len => match asTree hp (.nr q π off len) with
  | some (o2, st2, news) => if (ei.size = 1 ∨ wideT e = true) ∧ 0 < ei.size ∧ news ≠ [] ∧ ∀ r ∈ news, r.length = ei.size then (match dst with
   | .nl => if news.length * ei.bytes ≤ roomBytes ∧ news.length ≤ maxL then (match add (put hp o2 .dead) (nid d 0) (.tree st2 news) with
    | some hp' => some (.nr (nid d 0) [] 0 news.length, hp')
    | none => none) else none
   | dst => match asTree hp dst with
    | some (o, st, rows) => if o ≠ o2 ∧ kOk hp o ei.size = true ∧ (∀ r ∈ rows, r.length = ei.size) ∧ (rows.length + news.length) * ei.bytes ≤ roomBytes ∧ rows.length + news.length ≤ maxL then (match add (put (put hp o .dead) o2 .dead) (nid d 0) (.tree (bothOwn st st2) (rows ++ news)) with
     | some hp' => some (.nr (nid d 0) [] 0 (rows.length + news.length), hp')
     | none => none) else none
    | none => none) else none
  | none => none
 | _, _ => none
def memOp (C : Cfg) (s : St) (d : Nat) : Op → Option (TV × Hp)
 | .load t a => match C.T t, s.ev a with
  | some ti, some x => match loadAt s.hp ti x with
   | some v => some (v, s.hp)
   | none => none
  | _, _ => none
 | .store t a v => match C.T t, s.ev a, s.ev v with
  | some ti, some x, some y => match storeAt s.hp ti y x with
   | some hp => some (.tu [], hp)
   | none => none
  | _, _, _ => none
 | .box _ x => match s.ev x with
  | some v => match boxOf v with
   | some ob => match add s.hp (nid d 0) ob with
    | some hp => some (.bp (nid d 0) 0, hp)
    | none => none
   | none => none
  | none => none
 | .alloc t => match C.T t with
  | some ti => match arrRow C ti with
   | some rows => match add s.hp (nid d 0) (.row .own t 1 rows) with
    | some hp => some (.ap (nid d 0) rows.length, hp)
    | none => none
   | none => match boxOf ti.zero with
    | some ob => match add s.hp (nid d 0) ob with
     | some hp => some (.bp (nid d 0) 0, hp)
     | none => none
    | none => none
  | none => none
 | .makeSlice t len cap => match C.T t, s.ev len, s.ev cap with
  | some { kind := .slice e, .. }, some (.pv _ (.sc (.int .i64 n))), some (.pv _ (.sc (.int .i64 m))) => match C.T e with
   | some ei => match zeroRow ei.zero with
    | some z => if 0 ≤ n ∧ n = m ∧ n.toNat * ei.bytes ≤ roomBytes ∧ 0 < ei.size ∧ z.length = ei.size ∧ n ≤ 9223372036854775807 then (match add s.hp (nid d 0) (.row .own e ei.size (List.replicate n.toNat z)) with
     | some hp => some (.ref (nid d 0) 0 n.toNat, hp)
     | none => none) else none
    | none => none
   | none => none
  | _, _, _ => none
 | .buildSlice t len parts => match C.T t with
  | some { kind := .slice e, .. } => match C.T e with
   | some ei => match treeRow C.att s e ei len parts.toList with
    | some (row, b, hp1) => match add hp1 (nid d 0) (.tree (bif b then .own else .io) [row]) with
     | some hp' => some (.nr (nid d 0) [] 0 1, hp')
     | none => none
    | none => match zeroRow ei.zero with
    | some z => if len * ei.size ≤ 16777216 ∧ 0 < ei.size ∧ z.length = ei.size then (match fillRows C s ei.size s.hp (List.replicate len z) parts.toList with
     | some (rows, hp) => match add hp (nid d 0) (.row .own e ei.size rows) with
      | some hp' => some (.ref (nid d 0) 0 len, hp')
      | none => none
     | none => none) else none
    | none => none
   | none => none
  | _ => none
 | .convert src dst x => match C.T src, C.T dst, s.ev x with
  | some { kind := .str, .. }, some { kind := .slice e, .. }, some (.pv _ (.sc (.string b))) => match C.T e with
   | some { kind := .int .u8, size := 1, .. } => match (if wideT e = false then add s.hp (nid d 0) (.row .own e 1 (b.data.toList.map fun (c : UInt8) => [PV.sc (.int .u8 c.toNat)])) else none) with
    | some hp => some (.ref (nid d 0) 0 b.size, hp)
    | none => none
   | _ => none
  | some _, some { kind := .slice e, .. }, some (.ref o off len) => match C.T e, look s.hp o with
   | some { kind := .int .u8, .. }, some (.row st e' k rows) => if src = dst ∧ 0 < len ∧ st ≠ .fz ∧ wideT e' = false then some (.ref o off len, put s.hp o (.row st e' k rows)) else none
   | _, _ => none
  | _, _, _ => none
 | .call { callee := .builtin .append, args := args, argTypes := ts } => match args.toList, ts.toList with
  | [x, y], [t, t'] => match C.T t, C.T t', s.ev x, s.ev y with
   | some { kind := .slice e, .. }, some ti', some dst, some src => match C.T e with
    | some ei => match (match ti'.kind with | .slice _ => treeApp s.hp d e ei dst src | _ => none) with
     | some r => some r
     | none => match (match ti'.kind, src with
      | .str, .pv _ (.sc (.string b)) => some (b.data.toList.map fun (c : UInt8) => [PV.sc (.int .u8 c.toNat)])
      | .slice _, v => rowsOf s.hp v
      | _, _ => none) with
     | some news => if (∀ r ∈ news, r.length = ei.size) then (match dst with
      | .nl => if news.length * ei.bytes ≤ roomBytes ∧ 0 < ei.size ∧ news.length ≤ maxL then (match add s.hp (nid d 0) (.row .own e ei.size news) with
       | some hp => some (.ref (nid d 0) 0 news.length, hp)
       | none => none) else none
      | .ref o off len => match look s.hp o with
       | some (.row st e' k rows) => if Spare (off + len) rows.length then (if st ≠ .fz ∧ e' = e ∧ k = ei.size ∧ 0 < ei.size ∧ off + len + news.length ≤ rows.length then some (.ref o off (len + news.length), put s.hp o (.row st e' k (splice rows (off + len) news))) else none) else
        if st ≠ .fz ∧ e' = e ∧ k = ei.size ∧ (len + news.length) * ei.bytes ≤ roomBytes ∧ 0 < ei.size ∧ len + news.length ≤ maxL then (match sub rows off len with
        | some old => match add (put s.hp o .dead) (nid d 0) (.row st e ei.size (old ++ news)) with
         | some hp => some (.ref (nid d 0) 0 (len + news.length), hp)
         | none => none
        | none => none) else none
       | _ => none
      | _ => none) else none
     | none => none
    | none => none
   | _, _, _, _ => none
  | _, _ => none
 | .call { callee := .builtin .clear, args := args, argTypes := ts } => match args.toList, ts.toList with
  | [x], [t] => match C.T t, s.ev x with
   | some { kind := .slice e, .. }, some (.ref o off len) => match C.T e, look s.hp o with
    | some ei, some (.row st e' k rows) => match zeroRow ei.zero with
     | some z => if st ≠ .fz ∧ k = ei.size ∧ z.length = ei.size ∧ off + len ≤ rows.length then some (.tu [], put s.hp o (.row st e' k (splice rows off (List.replicate len z)))) else none
     | none => none
    | _, _ => none
   | _, _ => none
  | _, _ => none
 | _ => none
def renS (f : Nat → Option Nat) : Option Nat → Option (Option Nat)
 | none => some none
 | some o => match f o with | some x => some (some x) | none => none
def ren (f : Nat → Option Nat) : TV → TV
 | .ref o a b => match f o with | some i => .ref i a b | none => .ud
 | .bp o a => match f o with | some i => .bp i a | none => .ud
 | .ep o i j => match f o with | some x => .ep x i j | none => .ud
 | .nr o π a b => match f o with | some x => .nr x π a b | none => .ud
 | .np o π i j => match f o with | some x => .np x π i j | none => .ud
 | .ap o m => match f o with | some x => .ap x m | none => .ud
 | .dv s rows => match renS f s with | some x => .dv x rows | none => .ud
 | .dp s cells => match renS f s with | some x => .dp x cells | none => .ud
 | .ag cs => .ag (renL f cs)
 | .tu cs => .tu (renL f cs)
 | .fn g cs => .fn g (renL f cs)
 | .mv g cs => .mv g (renL f cs)
 | t => t
where renL (f : Nat → Option Nat) : List TV → List TV
 | [] => []
 | t :: l => ren f t :: renL f l
def renO (f : Nat → Option Nat) : OB → OB
 | .box cs => .box (ren.renL f cs)
 | o => o
def ofS : Option Nat → List Nat
 | some o => [o]
 | none => []
def objs : TV → List Nat
 | .ref o _ _ => [o]
 | .bp o _ => [o]
 | .ep o _ _ => [o]
 | .nr o _ _ _ => [o]
 | .np o _ _ _ => [o]
 | .ap o _ => [o]
 | .dv s _ => ofS s
 | .dp s _ => ofS s
 | .ag cs => objsL cs
 | .tu cs => objsL cs
 | .fn _ cs => objsL cs
 | .mv _ cs => objsL cs
 | _ => []
where objsL : List TV → List Nat
 | [] => []
 | t :: l => objs t ++ objsL l
def reach (hp : Hp) : Nat → List Nat → List Nat → List Nat
 | 0, _, acc => acc
 | _ + 1, [], acc => acc
 | n + 1, o :: l, acc => if acc.contains o then reach hp n l acc else match look hp o with
  | some (.box cs) => reach hp n (objs.objsL cs ++ l) (acc ++ [o])
  | some .dead => reach hp n l acc
  | some _ => reach hp n l (acc ++ [o])
  | none => reach hp n l acc
def pos : List Nat → Nat → Option Nat
 | [], _ => none
 | j :: r, i => if i = j then some 0 else match pos r i with | some n => some (n + 1) | none => none
def renH (f : Nat → Option Nat) (hp : Hp) : List Nat → Hp
 | [] => []
 | o :: l => match look hp o, f o with
  | some ob, some i => put (renH f hp l) i (renO f ob)
  | _, _ => renH f hp l
def renT (f : Nat → Option Nat) : List (Nat × TV) → List (Nat × TV)
 | [] => []
 | (i, t) :: l => (i, ren f t) :: renT f l
def keepT (D : List Nat) : List (Nat × TV) → List (Nat × TV)
 | [] => []
 | (i, t) :: l => if D.contains i then (i, t) :: keepT D l else keepT D l
def vals : List (Nat × TV) → List TV
 | [] => []
 | (_, t) :: l => t :: vals l
def ios (hp : Hp) : List Nat := (hp.map (·.1)).filter (· < 16)
def names (L : List Nat) (o : Nat) : Option Nat := match pos L o with
 | some i => some (if o < 16 then o else cid i)
 | none => none
def canon (D : List Nat) (s : St) : St :=
 let tm := keepT D s.tm
 let L := reach s.hp 64 (ios s.hp ++ objs.objsL (vals tm)) []
 ⟨renT (names L) tm, renH (names L) s.hp L⟩
def calleeOf (s : St) : Callee → Option (FuncId × List TV × List TV)
 | .value x => match s.ev x with
  | some (.fn f caps) => some (f, [], caps)
  | some (.mv f cs) => some (f, cs, [])
  | some (.pv b (.cl f caps)) => some (f, [], caps.map (mkpv b))
  | _ => none
 | _ => none
def given : List Bool → List TV → List Nat
 | _, [] => []
 | fl, t :: l => (if fl.headD false then objs t else []) ++ given (fl.drop 1) l
def handOn (hp : Hp) (rs : List Nat) : List Bool → List TV → Option (List TV)
 | _, [] => some []
 | fl, t :: l => match (if fl.headD false then some (ren (pos rs) t) else view hp rs 32 t), handOn hp rs (fl.drop 1) l with
  | some x, some xs => some (x :: xs)
  | _, _ => none
def pure? : TV → Bool
 | .pv b _ => !b
 | .ag cs => pureL cs
 | .tu cs => pureL cs
 | .rp _ => false
 | .dv s _ => s.isSome
 | .dp s _ => s.isSome
 | .fn _ cs => pureL cs
 | .mv _ cs => pureL cs
 | _ => true
where pureL : List TV → Bool
 | [] => true
 | t :: l => pure? t && pureL l
def pures : List Bool → List TV → Bool
 | _, [] => true
 | fl, t :: l => (if fl.headD false then pure? t else true) && pures (fl.drop 1) l
def givable (hp : Hp) : List Nat → Bool
 | [] => true
 | o :: l => (match look hp o with
  | some (.box cs) => pure?.pureL cs
  | some (.arr _) => true
  | some (.row st _ _ _) => decide (st ≠ .fz)
  | some (.dat _) => true
  | some (.tree _ _) => true
  | _ => false) && givable hp l
def give : OB → OB
 | .row .own e k rows => .row .io e k rows
 | .tree _ rows => .tree .io rows
 | .dat _ => .dat false
 | ob => ob
def giveH : Hp → Hp
 | [] => []
 | (i, ob) :: l => (i, give ob) :: giveH l
def back : Option OB → OB → OB
 | some (.row st _ _ _), .row .io e k rows => .row st e k rows
 | some (.tree st _), .tree .io rows => .tree st rows
 | _, ob => ob
def retH (hp out : Hp) (g : Nat → Option Nat) : List Nat → Nat → Hp → Hp
 | [], _, acc => acc
 | o :: l, i, acc => retH hp out g l (i + 1) (put acc o (match look out i with
  | some ob => back (look hp o) (renO g ob)
  | none => .dead))
def upO (u : Bool) : OB → OB
 | .row st e k rows => .row (bif u && decide (st = .io) then .own else st) e k rows
 | .tree st rows => .tree (bif u && decide (st = .io) then .own else st) rows
 | ob => ob
def mines (hp out : Hp) : List Nat → Nat → Bool
 | [], _ => true
 | o :: l, q => (match look hp o with
  | some (.row .own _ _ _) => true
  | some (.tree .own _) => true
  | some (.box _) => (match look out q with
   | some (.box _) => true
   | _ => false)
  | _ => false) && mines hp out l (q + 1)
def newH (u : Bool) (g : Nat → Option Nat) : Hp → Hp → Option Hp
 | [], acc => some acc
 | (i, ob) :: l, acc => if i < 16 then newH u g l acc else match g i with
  | some j => match look acc j with
   | none => newH u g l (put acc j (upO u (renO g ob)))
   | some _ => none
  | none => none
def gname (d : Nat) (rs : List Nat) (i : Nat) : Option Nat := if i < 16 then rs[i]? else if i % 2 = 0 ∧ i < 32 then some (nid d ((i - 16) / 2)) else if i % 2 = 0 ∧ i < 144 then some (4000001 + (d * 64 + (i - 16) / 2) * 2) else none
def callStd (C : Cfg) (Φ : FuncId → List TV → Hp → Option Res) (s : St) (d : Nat) (f : FuncId) (args : List TV) : Option (TV × Hp) :=
    let rs := reach s.hp 64 (given (C.sg f).io args) []
    if givable s.hp rs && pures (C.sg f).io args && decide (rs.length ≤ 16) then
     match handOn s.hp rs (C.sg f).io args with
     | some ts => match Φ f ts (giveH (renH (pos rs) s.hp rs)) with
      | some (r, out) =>
       let g := fun i => if i < 16 then rs[i]? else if i % 2 = 0 ∧ i < 32 then some (nid d ((i - 16) / 2)) else if i % 2 = 0 ∧ i < 144 then some (4000001 + (d * 64 + (i - 16) / 2) * 2) else none
       match newH (mines s.hp out rs 0) g out (retH s.hp out g rs 0 s.hp) with
       | some hp => some (ren g r, hp)
       | none => none
      | none => none
     | none => none
    else none
def hasD1 : TV → Bool
 | .dv (some _) _ => true
 | .nr .. => true
 | _ => false
def hasD : TV → Bool
 | .dv (some _) _ => true
 | .nr .. => true
 | .ag cs => cs.any hasD1
 | _ => false
def isDeep (io : List Bool) (ts : List TV) : Bool := !io.any id && ts.any hasD
def deepT (hp : Hp) : TV → Option TV
 | .dv (some o) rows => match look hp o with
  | some (.dat true) => some (.pv false (.sl rows))
  | _ => none
 | .dv none rows => some (.dv none rows)
 | .nr o π off len => match look hp o with
  | some (.tree _ rows) => match tat rows π with
   | some rs => if off = 0 ∧ len = rs.length then some (.pv false (.sl rs)) else none
   | none => none
  | _ => none
 | t => view hp [] 32 t
def mapO (f : TV → Option TV) : List TV → Option (List TV)
 | [] => some []
 | t :: l => match f t, mapO f l with
  | some x, some xs => some (x :: xs)
  | _, _ => none
def deepV (hp : Hp) : TV → Option TV
 | .ag cs => match mapO (deepT hp) cs with
  | some l => bif l.all TV.isCell then some (.ag l) else none
  | none => none
 | t => deepT hp t
def flatT : TV → Bool
 | .pv _ (.sc _) | .ud | .nl | .ref .. | .bp .. | .er | .nr .. => true
 | .ag cs => flatL cs
 | .tu cs => flatL cs
 | _ => false
where flatL : List TV → Bool
 | [] => true
 | t :: l => flatT t && flatL l
def flatO : OB → Bool
 | .box cs => flatT.flatL cs
 | .arr ps => ps.all PV.isSc
 | .row st _ _ rows => decide (st ≠ .fz) && rows.all fun r => r.all PV.isSc
 | .tree _ _ => true
 | .dead => true
 | _ => false
def flatH : Hp → Bool
 | [] => true
 | (_, ob) :: l => flatO ob && flatH l
def callDeep (Φ : FuncId → List TV → Hp → Option Res) (s : St) (d : Nat) (f : FuncId) (args : List TV) : Option (TV × Hp) :=
 match mapO (deepV s.hp) args with
 | some ts => match Φ f ts [] with
  | some (r, out) => bif flatT r && flatH out then (match newH true (gname d []) out s.hp with
   | some hp => some (ren (gname d []) r, hp)
   | none => none) else none
  | none => none
 | none => none
def freshT : TV → Option TV
 | .pv _ (.sl rows) => some (.dv none rows)
 | .pv _ (.sc v) => some (.pv false (.sc v))
 | .nl => some (.dv none [])
 | _ => none
def freshV : TV → Option TV
 | .ag cs => match mapO freshT cs with
  | some l => some (.ag l)
  | none => none
 | t => freshT t
def freshQ (fr : Bool) (ts : List TV) : Option (List TV) := bif fr then mapO freshV ts else none
def ownT (o : Nat) : TV → Option TV
 | .pv false (.sl rows) => some (.dv (some o) rows)
 | .pv false (.sc v) => some (.pv false (.sc v))
 | _ => none
def ownV (o : Nat) : TV → Option TV
 | .ag cs => match mapO (ownT o) cs with
  | some l => some (.ag l)
  | none => none
 | t => ownT o t
def callFresh (Φ : FuncId → List TV → Hp → Option Res) (s : St) (d : Nat) (f : FuncId) (ts : List TV) : Option (TV × Hp) :=
 match Φ f ts [] with
 | some (r, []) => match ownV (nid d 0) r, add s.hp (nid d 0) (.dat true) with
  | some x, some hp => some (x, hp)
  | _, _ => none
 | _ => none
def callAt (C : Cfg) (Φ : FuncId → List TV → Hp → Option Res) (s : St) (d : Nat) (f : FuncId) (args : List TV) : Option (TV × Hp) :=
 bif isDeep (C.sg f).io args then callDeep Φ s d f args else match freshQ (C.sg f).fr args with
  | some ts => callFresh Φ s d f ts
  | none => callStd C Φ s d f args
def callOp (C : Cfg) (Φ : FuncId → List TV → Hp → Option Res) (s : St) (d : Nat) (c : Call) : Option (TV × Hp) :=
 match calleeOf s c.callee, evs s c.args.toList with
 | some (f, first, caps), some args => callAt C Φ s d f (first ++ (args ++ caps))
 | _, _ => none
mutual
def outTV : RK → TV → Hp → Option (TV × Hp)
 | .any, t, hp => some (t, hp)
 | .d, .pv false p, hp => some (.pv false p, hp)
 | .d, .nl, hp => some (.pv false (.sl []), hp)
 | .d, .ar ps, hp => some (.ar ps, hp)
 | .d, .ref o off len, hp => match keep hp (.ref o off len) with
  | some (p, hp') => some (.pv false p, hp')
  | none => none
 | .d, .nr o π off len, hp => match keep hp (.nr o π off len) with
  | some (p, hp') => some (.pv false p, hp')
  | none => none
 | .d, .ag cs, hp => match keeps hp cs with
  | some (ps, hp') => some (.ag (ps.map (TV.pv false)), hp')
  | none => none
 | .d, .tu [], hp => some (.tu [], hp)
 | .own _ _, .ref o off len, hp => some (.ref o off len, hp)
 | .own e k, .nl, hp => if 0 < k then (match add hp (2000001 + 2 * hp.length) (.row .own e k []) with
  | some hp' => some (.ref (2000001 + 2 * hp.length) 0 0, hp')
  | none => none) else none
 | .tr, .nr o π off len, hp => match asTree hp (.nr o π off len) with
  | some _ => some (.nr o π off len, hp)
  | none => none
 | .tr, .nl, hp => match add hp (2000001 + 2 * hp.length) (.tree .own []) with
  | some hp' => some (.nr (2000001 + 2 * hp.length) [] 0 0, hp')
  | none => none
 | .tr, .ref o off len, hp => match asTree hp (.ref o off len) with
  | some (o', st, rows) => match add (put hp o' .dead) (2000001 + 2 * hp.length) (.tree st rows) with
   | some hp' => some (.nr (2000001 + 2 * hp.length) [] 0 rows.length, hp')
   | none => none
  | none => none
 | .ag ks, .ag cs, hp => match outL ks cs hp with
  | some (l, hp') => if l.all TV.isCell then some (.ag l, hp') else none
  | none => none
 | .tu ks, .tu cs, hp => match outL ks cs hp with
  | some (l, hp') => some (.tu l, hp')
  | none => none
 | _, _, _ => none
def outL : List RK → List TV → Hp → Option (List TV × Hp)
 | [], [], hp => some ([], hp)
 | k :: ks, t :: ts, hp => match outTV k t hp with
  | some (x, hp') => match outL ks ts hp' with
   | some (l, hp'') => some (x :: l, hp'')
   | none => none
  | none => none
 | _, _, _ => none
end
end Go.Pm
namespace Go.Pm
open Go
inductive It where
 | c (c : Code)
 | blk (id : Nat)
 | lp (c : Code) (D : List Nat)
 | rg (ops : Array Oper) (l : List Nat)
def exitIt (id : Nat) : List It → Option (List It)
 | .blk j :: k => if j = id then some k else exitIt id k
 | _ :: k => exitIt id k
 | [] => none
def exitD (id : Nat) : List It → Option (List Nat) → Option (List Nat)
 | .blk j :: k, d => if j = id then d else exitD id k d
 | .lp _ D :: k, _ => exitD id k (some D)
 | _ :: k, d => exitD id k d
 | [], d => d
def exitS (d : Option (List Nat)) (s : St) : St := match d with
 | some D => canon D s
 | none => s
def isLight (bs : List Nat) : Op → Bool
 | .convert _ dst _ => !bs.contains dst
 | .move _ | .assign _ | .pick .. | .binOp .. | .unOp .. | .extract .. | .field .. | .makeFunc .. | .build .. | .nilCheck .. | .fieldAddr .. | .indexAddr .. | .index .. | .slice .. | .load .. => true
 | .call { callee := .builtin .len, .. } | .call { callee := .builtin .max, .. } | .call { callee := .builtin .min, .. } => true
 | _ => false
def lightOp (C : Cfg) (s : St) : Op → Option TV
 | .pick c a b => match s.ev c with
  | some (.pv _ (.sc (.bool t))) => bif t then s.ev a else s.ev b
  | _ => none
 | .load t a => match C.T t, s.ev a with
  | some ti, some x => loadAt s.hp ti x
  | _, _ => none
 | op => pureOp C s op
def heavyOp (C : Cfg) (Φ : FuncId → List TV → Hp → Option Res) (s : St) (d : Nat) : Op → Option (TV × Hp)
 | .call { callee := .value x, args := args, argTypes := ts } => callOp C Φ s d { callee := .value x, args := args, argTypes := ts }
 | op => memOp C s d op
def oneOp (C : Cfg) (Φ : FuncId → List TV → Hp → Option Res) (s : St) (o : Oper) : Option (TV × Hp) :=
 bif isLight C.bs o.op then (match lightOp C s o.op with
  | some v => some (v, s.hp)
  | none => none)
 else heavyOp C Φ s (o.dst.getD 0) o.op
def opStep (C : Cfg) (Φ : FuncId → List TV → Hp → Option Res) (ops : Array Oper) (s : St) (o : Oper) : Option (TV × Hp) :=
 match o.guard with
 | none => oneOp C Φ s o
 | some (j, want) => match (ops[j]?).bind (·.dst) with
  | none => none
  | some g => match look s.tm g with
   | some (.pv _ (.sc (.bool b))) => bif b == want then oneOp C Φ s o else some (.tu [], s.hp)
   | some (.tu []) => some (.tu [], s.hp)
   | _ => none
def St.set (s : St) (d : Option Nat) (v : TV) (hp : Hp) : St := match d with
 | some d => ⟨put s.tm d v, hp⟩
 | none => ⟨s.tm, hp⟩
def evObjs (s : St) : List Operand → List Nat
 | [] => []
 | x :: l => (match s.ev x with
  | some t => objs t
  | none => []) ++ evObjs s l
def rdOps : Op → List Operand
 | .load t a => (Op.load t a).operands.toList
 | .indexAddr t x i => (Op.indexAddr t x i).operands.toList
 | .slice t x lo hi mx => (Op.slice t x lo hi mx).operands.toList
 | .convert src dst x => (Op.convert src dst x).operands.toList
 | _ => []
def writes : Op → List Operand
 | .call { callee := .builtin .append, args := args, .. } => args.toList.take 1
 | op => op.operands.toList
def nrObjs (s : St) : List Operand → List Nat
 | [] => []
 | x :: l => (match s.ev x with
  | some (.nr o _ _ _) => [o]
  | _ => []) ++ nrObjs s l
def srcOps : Op → List Operand
 | .call { callee := .builtin .append, args := args, .. } => args.toList.drop 1
 | _ => []
def touched (C : Cfg) (s : St) : Op → List Nat
 | .call { callee := .value x, args := args, .. } => match calleeOf s (.value x), evs s args.toList with
  | some (f, first, caps), some as => reach s.hp 64 (given (C.sg f).io (first ++ (as ++ caps))) []
  | _, _ => []
 | op => evObjs s (writes op) ++ nrObjs s (srcOps op)
def apartL (a b : List Nat) : Bool := a.all fun x => !b.contains x
def waits (ops : Array Oper) (x : Nat) : List Nat := match ops[x]? with
 | some o => (o.after.toList.filter fun e => Region.binds .any e).map (·.on)
 | none => []
def behind (ops : Array Oper) : Nat → Nat → Nat → Bool
 | 0, _, _ => false
 | n + 1, x, y => (waits ops y).any fun z => z == x || behind ops n x z
def lightAt (bs : List Nat) (ops : Array Oper) (i : Nat) : Bool := match ops[i]? with
 | some o => isLight bs o.op
 | none => true
def canGo (ops : Array Oper) (done : List Nat) (i : Nat) : Bool := !done.contains i && (waits ops i).all done.contains
def looks (ops : Array Oper) (i : Nat) : List Tmp := match ops[i]? with
 | some o => o.looksAt ops
 | none => []
def dstAt (ops : Array Oper) (i : Nat) : Option Tmp := (ops[i]?).bind (·.dst)
def pairOk (ops : Array Oper) (x y : Nat) : Bool :=
 (match dstAt ops x with | some d => (!(looks ops y).contains d || (waits ops y).contains x) && dstAt ops y != some d | none => true) &&
 (match dstAt ops y with | some d => !(looks ops x).contains d || (waits ops y).contains x | none => true)
inductive PT where
 | fin
 | no
 | lt (i : Nat) (rest : PT)
 | hv (i : Nat) (L : List Nat) (rest other : PT)
def PT.isNo : PT → Bool
 | .no => true
 | _ => false
def PT.alts : PT → List Nat
 | .hv i _ _ o => i :: o.alts
 | _ => []
def beside (bs : List Nat) (ops : Array Oper) (done : List Nat) (i : Nat) : List Nat := done.filter fun x => lightAt bs ops x && !behind ops 6 x i
def treeOk (bs : List Nat) (ops : Array Oper) : Bool → PT → List Nat → Bool
 | true, .fin, done => (List.range ops.size).all done.contains
 | false, .no, _ => true
 | true, .lt i r, done => canGo ops done i && decide (i < ops.size) && lightAt bs ops i && done.all (fun x => pairOk ops x i) && treeOk bs ops true r (i :: done)
 | top, .hv i L r o, done => (bif top then (List.range ops.size).all (fun j => !canGo ops done j || (!lightAt bs ops j && (i :: o.alts).contains j)) else true) &&
     canGo ops done i && decide (i < ops.size) && !lightAt bs ops i && (L == beside bs ops done i) && done.all (fun x => pairOk ops x i) && treeOk bs ops true r (i :: done) && treeOk bs ops false o done
 | _, _, _ => false
def treeGo (bs : List Nat) (ops : Array Oper) : Nat → List Nat → PT
 | 0, done => if (List.range ops.size).all done.contains then .fin else .no
 | n + 1, done => match (List.range ops.size).find? (fun i => canGo ops done i && lightAt bs ops i) with
  | some i => .lt i (treeGo bs ops n (i :: done))
  | none => match (List.range ops.size).filter (fun i => canGo ops done i) with
   | [] => if (List.range ops.size).all done.contains then .fin else .no
   | l => l.foldr (fun i t => .hv i (beside bs ops done i) (treeGo bs ops n (i :: done)) t) .no
def plan (bs : List Nat) (ops : Array Oper) : Option PT := let t := treeGo bs ops ops.size []; if treeOk bs ops true t [] then some t else none
def tstep (C : Cfg) (Φ : FuncId → List TV → Hp → Option Res) (ops : Array Oper) (i : Nat) (L : List Nat) (rd : List (Nat × List Nat)) (s : St) : Option (St × List (Nat × List Nat)) := match ops[i]? with
    | none => none
    | some o => bif (bif isLight C.bs o.op then (evObjs s (rdOps o.op)).all (fun q => (look s.hp q).isSome) else rd.all (fun x => !L.contains x.1 || apartL x.2 (touched C s o.op))) then (match opStep C Φ ops s o with
     | some (v, hp) => some (s.set o.dst v hp, (i, evObjs s (rdOps o.op)) :: rd)
     | none => none)
     else none
open Classical in
noncomputable def trun (C : Cfg) (Φ : FuncId → List TV → Hp → Option Res) (ops : Array Oper) : PT → List (Nat × List Nat) → St → Option St
 | .fin, _, s => some s
 | .no, _, _ => none
 | .lt i r, rd, s => match tstep C Φ ops i [] rd s with
  | some (s', rd') => trun C Φ ops r rd' s'
  | none => none
 | .hv i L r o, rd, s => match tstep C Φ ops i L rd s with
  | some (s', rd') => match trun C Φ ops r rd' s' with
   | some e => bif o.isNo then some e else if trun C Φ ops o rd s = some e then some e else none
   | none => none
  | none => none
def tf (b : Bool) : TV := .pv false (.sc (.bool b))
def outs (C : Cfg) (s : St) : List ResultVar → Option (List TV)
 | [] => some []
 | .tmp t :: l => match look s.tm t, outs C s l with
  | some v, some vs => some (v :: vs)
  | _, _ => none
 | .cell a t :: l => match look s.tm a, C.T t, outs C s l with
  | some x, some ti, some vs => match loadAt s.hp ti x with
   | some v => some (v :: vs)
   | none => none
  | _, _, _ => none
def oneOf : List TV → TV
 | [t] => t
 | l => .tu l
def finish (C : Cfg) (f : FuncId) (fn : Func) (s : St) : Option Res :=
 match outs C s fn.results.toList with
 | some vs => match outTV (C.sg f).ret (oneOf vs) s.hp with
  | some (r, hp) => if pure? r then
   let L := reach hp 64 (ios hp ++ objs r) []
   if givable' hp L then some (ren (names L) r, renH (names L) hp L) else none
   else none
  | none => none
 | none => none
where givable' (hp : Hp) : List Nat → Bool
    | [] => true
    | o :: l => (match look hp o with
     | some (.box cs) => pure?.pureL cs
     | _ => true) && givable' hp l
def number (ts : List TV) (i : Nat) : List (Nat × TV) := match ts with
 | [] => []
 | t :: l => (i, t) :: number l (i + 1)
def useOps : List Oper → List Nat → List Nat → List Nat
 | [], _, acc => acc
 | o :: l, st, acc => useOps l (match o.dst with | some d => d :: st | none => st) ((o.op.operands.toList.filterMap fun x => match x with | .tmp t => if st.contains t then none else some t | _ => none) ++ acc)
def globC : Code → List Nat
 | .region _ ops _ => useOps ops.toList [] []
 | .seq a b => globC a ++ globC b
 | .cond c a b => (match c with | .tmp t => [t] | _ => []) ++ (globC a ++ globC b)
 | .block _ a => globC a
 | .loop a => globC a
 | _ => []
def globs (fn : Func) : List Nat := ((match fn.body with | some c => globC c | none => []) ++ fn.results.toList.map fun r => match r with | .tmp t => t | .cell a _ => a).eraseDups
def keepD (G : List Nat) : List (Nat × TV) → List Nat
 | [] => []
 | (i, _) :: l => bif G.contains i then i :: keepD G l else keepD G l
noncomputable def body (C : Cfg) (Φ : FuncId → List TV → Hp → Option Res) (R : List It → St → Option Res) (f : FuncId) (fn : Func) (k : List It) (s : St) : Option Res :=
    match k with
    | [] => finish C f fn s
    | .c .skip :: k => R k s
    | .c (.seq x y) :: k => R (.c x :: .c y :: k) s
    | .c (.cond c x y) :: k => match s.ev c with
     | some (.pv _ (.sc (.bool b))) => bif b then R (.c x :: k) s else R (.c y :: k) s
     | _ => none
    | .c (.block id c) :: k => R (.c c :: .blk id :: k) s
    | .blk _ :: k => R k s
    | .c (.loop c) :: k => R (.lp c (keepD (globs fn) s.tm) :: k) s
    | .lp c D :: k => R (.c c :: .lp c D :: k) (canon D s)
    | .c (.exit id) :: k => match exitIt id k with
     | some k' => R k' (exitS (exitD id k none) s)
     | none => none
    | .c .ret :: _ => finish C f fn s
    | .c (.region _ ops false) :: k => R (.rg ops (List.range ops.size) :: k) s
    | .c (.region _ ops true) :: k => match plan C.bs ops with
     | some t => match trun C Φ ops t [] s with
      | some s' => R k s'
      | none => none
     | none => none
    | .rg _ [] :: k => R k s
    | .rg ops (i :: l) :: k => match ops[i]? with
     | some o => match opStep C Φ ops s o with
      | some (v, hp) => R (.rg ops l :: k) (s.set o.dst v hp)
      | none => none
     | none => none
    | _ => none
def phi (C : Cfg) (R : FuncId → Func → List It → St → Option Res) (g : FuncId) (args : List TV) (hp : Hp) : Option Res := match C.ext g args hp with
 | some r => some r
 | none => match C.P.funcs[g]? with
  | some gn => match gn.body with
   | some c => R g gn [.c c] ⟨number args 0, hp⟩
   | none => none
  | none => none
noncomputable def run (C : Cfg) : Nat → FuncId → Func → List It → St → Option Res
 | 0, _, _, _, _ => none
 | n + 1, f, fn, k, s => body C (phi C (run C n)) (run C n f fn) f fn k s
end Go.Pm
namespace Go.Pm
open Go
class Dd where
 dd : Prop
inductive Rep (w : World) : (Nat → Prop) → (Nat → Prop) → Value → PV → Prop
 | sc {R U : Nat → Prop} {v : Value} : plain v = true → Rep w R U v (.sc v)
 | nil {R U : Nat → Prop} {A : Option Addr} {c : Nat} : Rep w R U (.slice A 0 c) (.sl [])
 | sl {R U : Nat → Prop} {ad : Addr} {c k : Nat} {rows : List (List PV)} (u : Nat → Nat → Value) : ad.spot = none → R ad.block → rows.length ≤ c →
     (∀ (i : Nat) (r : List PV), rows[i]? = some r → r.length = k) →
     (∀ (i : Nat) (r : List PV) (j : Nat) (p : PV), rows[i]? = some r → r[j]? = some p → w.cell? ⟨ad.block, ad.off + (i * k + j), none⟩ = some (u i j)) →
     (∀ (i : Nat) (r : List PV) (j : Nat) (p : PV), rows[i]? = some r → r[j]? = some p → Rep w U U (u i j) p) → Rep w R U (.slice (some ad) rows.length c) (.sl rows)
 | pt {R U : Nat → Prop} {ad : Addr} {cells : List PV} (u : Nat → Value) : ad.spot = none → R ad.block →
     (∀ (j : Nat) (p : PV), cells[j]? = some p → w.cell? ⟨ad.block, ad.off + j, none⟩ = some (u j)) → (∀ (j : Nat) (p : PV), cells[j]? = some p → Rep w R U (u j) p) → Rep w R U (.pointer (some ad)) (.pt cells)
 | cl {R U : Nat → Prop} {f : FuncId} {caps : List PV} {arr : Array Value} : arr.size = caps.length →
     (∀ (j : Nat) (p : PV), caps[j]? = some p → Rep w R U (arr.getD j undef) p) → Rep w R U (.func (.func f) #[] arr) (.cl f caps)
def Keeps (w w' : World) (R : Nat → Prop) : Prop := ∀ b off v, R b → w.cell? ⟨b, off, none⟩ = some v → w'.cell? ⟨b, off, none⟩ = some v
theorem Keeps.refl (w : World) (R : Nat → Prop) : Keeps w w R := fun _ _ _ _ h => h
theorem Keeps.mono {a b : World} {R R' : Nat → Prop} (h : Keeps a b R) (hs : ∀ x, R' x → R x) : Keeps a b R' := fun x o v hr hv => h x o v (hs x hr) hv
theorem Keeps.of_block {w w' : World} {R : Nat → Prop} (h : ∀ b, R b → b < w.heap.size → w'.heap[b]? = w.heap[b]?) : Keeps w w' R := fun b off v hr hv =>
 (World.cell?_of_block (a := ⟨b, off, none⟩) (h b hr (World.block_lt_of_cell? w _ hv))).trans hv
theorem Rep.mono {w w' : World} {R U : Nat → Prop} {v : Value} {p : PV} (h : Rep w R U v p) : ∀ {R' U' : Nat → Prop}, Keeps w w' R → Keeps w w' U → (∀ b, R b → R' b) → (∀ b, U b → U' b) → Rep w' R' U' v p := by
 induction h with
 | sc h => intro R' U' _ _ _ _; exact .sc h
 | nil => intro R' U' _ _ _ _; exact .nil
 | sl u hs hr hl hk hc _ ih => intro R' U' h1 h2 h3 h4; exact .sl u hs (h3 _ hr) hl hk (fun i r j p hi hj => h1 _ _ _ hr (hc i r j p hi hj)) (fun i r j p hi hj => ih i r j p hi hj h2 h2 h4 h4)
 | pt u hs hr hc _ ih => intro R' U' h1 h2 h3 h4; exact .pt u hs (h3 _ hr) (fun j p hj => h1 _ _ _ hr (hc j p hj)) (fun j p hj => ih j p hj h1 h2 h3 h4)
 | cl hs _ ih => intro R' U' h1 h2 h3 h4; exact .cl hs (fun j p hj => ih j p hj h1 h2 h3 h4)
theorem Rep.weaken [Dd] {w : World} {R U R' U' : Nat → Prop} {v : Value} {p : PV} (h : Rep w R U v p) (h3 : ∀ b, R b → R' b) (h4 : ∀ b, U b → U' b) : Rep w R' U' v p := h.mono (Keeps.refl _ _) (Keeps.refl _ _) h3 h4
inductive CM where
 | dat (w1 : World) (B : Nat → Prop)
 | box (b : Nat)
 | row (A : Option Addr) (c k : Nat)
 | tree (g : List (Nat × Nat) → Option (Option Addr × Nat × Nat))
abbrev Mp := Nat → Option CM
def DSrc (w : World) (m : Mp) (R : Nat → Prop) : Option Nat → World → (Nat → Prop) → Prop
 | none, w1, B => w1 = w ∧ B = R
 | some o, w1, B => m o = some (.dat w1 B)
inductive RepT (w : World) (m : Mp) (R U : Nat → Prop) : Value → TV → Prop
 | pv {v : Value} {b : Bool} {p : PV} : Rep w (bif b then R else U) U v p → RepT w m R U v (.pv b p)
 | ud {v : Value} : v.oneCell' = true → RepT w m R U v .ud
 | nl : RepT w m R U (.slice none 0 0) .nl
 | ag {arr : Array Value} {cs : List TV} : (∀ t ∈ cs, t.isCell = true) → arr.size = cs.length → (∀ (j : Nat) (t : TV), cs[j]? = some t → RepT w m R U (arr.getD j undef) t) → RepT w m R U (.agg arr) (.ag cs)
 | ar {arr : Array Value} {ps : List PV} : arr.size = ps.length → (∀ (j : Nat) (p : PV), ps[j]? = some p → Rep w U U (arr.getD j undef) p) → RepT w m R U (.agg arr) (.ar ps)
 | tu {arr : Array Value} {cs : List TV} : arr.size = cs.length → (∀ (j : Nat) (t : TV), cs[j]? = some t → RepT w m R U (arr.getD j undef) t) → RepT w m R U (.tuple arr) (.tu cs)
 | ref {o off len c k : Nat} {A A' : Option Addr} : m o = some (.row A c k) → off + len ≤ c → (A' = A.map (·.add (off * k)) ∨ off = c) → RepT w m R U (.slice A' len (c - off)) (.ref o off len)
 | bp {o off b : Nat} : m o = some (.box b) → RepT w m R U (.pointer (some ⟨b, off, none⟩)) (.bp o off)
 | ep {o i j c k : Nat} {ad : Addr} : m o = some (.row (some ad) c k) → RepT w m R U (.pointer (some ⟨ad.block, ad.off + (i * k + j), none⟩)) (.ep o i j)
 | rp {ad : Addr} {cells : List PV} (u : Nat → Value) : ad.spot = none → R ad.block → (∀ (j : Nat) (p : PV), cells[j]? = some p → w.cell? ⟨ad.block, ad.off + j, none⟩ = some (u j)) →
     (∀ (j : Nat) (p : PV), cells[j]? = some p → Rep w U U (u j) p) → RepT w m R U (.pointer (some ad)) (.rp cells)
 | fn {f : FuncId} {caps : List TV} {arr : Array Value} : arr.size = caps.length → (∀ (j : Nat) (t : TV), caps[j]? = some t → RepT w m R U (arr.getD j undef) t) → RepT w m R U (.func (.func f) #[] arr) (.fn f caps)
 | mv {f : FuncId} {caps : List TV} {arr : Array Value} : arr.size = caps.length → (∀ (j : Nat) (t : TV), caps[j]? = some t → RepT w m R U (arr.getD j undef) t) → RepT w m R U (.func (.func f) arr #[]) (.mv f caps)
 | er {t : TypeId} {x : Value} : RepT w m R U (.iface t x) .er
 | nr {o off len c k : Nat} {π : List (Nat × Nat)} {A A' : Option Addr} {g : List (Nat × Nat) → Option (Option Addr × Nat × Nat)} : m o = some (.tree g) → g π = some (A, c, k) → off + len ≤ c → (A' = A.map (·.add (off * k)) ∨ off = c) → RepT w m R U (.slice A' len (c - off)) (.nr o π off len)
 | np {o i j c k : Nat} {π : List (Nat × Nat)} {ad : Addr} {g : List (Nat × Nat) → Option (Option Addr × Nat × Nat)} : m o = some (.tree g) → g π = some (some ad, c, k) → RepT w m R U (.pointer (some ⟨ad.block, ad.off + (i * k + j), none⟩)) (.np o π i j)
 | ap {o c k : Nat} {ad : Addr} : m o = some (.row (some ad) c k) → RepT w m R U (.pointer (some ad)) (.ap o c)
 | dv {v : Value} {s : Option Nat} {rows : List (List PV)} {w1 : World} {B : Nat → Prop} : DSrc w m R s w1 B → Rep w1 B B v (.sl rows) → RepT w m R U v (.dv s rows)
 | dp {s : Option Nat} {ad : Addr} {cells : List PV} {w1 : World} {B : Nat → Prop} (u : Nat → Value) : DSrc w m R s w1 B → ad.spot = none → B ad.block →
     (∀ (j : Nat) (p : PV), cells[j]? = some p → w1.cell? ⟨ad.block, ad.off + j, none⟩ = some (u j)) → (∀ (j : Nat) (p : PV), cells[j]? = some p → Rep w1 B B (u j) p) → RepT w m R U (.pointer (some ad)) (.dp s cells)
theorem RepT.mk {w : World} {m : Mp} {R U : Nat → Prop} {v : Value} {b : Bool} {p : PV} (h : Rep w (bif b then R else U) U v p) : RepT w m R U v (mkpv b p) := by
 cases p with
 | sc v => cases h with | sc h => exact .pv (.sc h)
 | _ => exact .pv h
theorem mkpv_cell (b : Bool) (p : PV) : (mkpv b p).isCell = true := by cases p <;> rfl
theorem RepT.mono [Dd] {w w' : World} {m m' : Mp} {R U R' U' : Nat → Prop} {v : Value} {t : TV} (h : RepT w m R U v t) (hm : ∀ o c, m o = some c → m' o = some c)
    (h1 : Keeps w w' R) (h2 : Keeps w w' U) (h3 : ∀ b, R b → R' b) (h4 : ∀ b, U b → U' b) : RepT w' m' R' U' v t := by
 induction h with
 | @pv v b p h => cases b
                  · exact .pv (h.mono h2 h2 h4 h4)
                  · exact .pv (h.mono h1 h2 h3 h4)
 | ud h => exact .ud h
 | nl => exact .nl
 | ag hi hs _ ih => exact .ag hi hs ih
 | ar hs h => exact .ar hs (fun j p hj => (h j p hj).mono h2 h2 h4 h4)
 | tu hs _ ih => exact .tu hs ih
 | ref h a b => exact .ref (hm _ _ h) a b
 | bp h => exact .bp (hm _ _ h)
 | ep h => exact .ep (hm _ _ h)
 | rp u hs hr hc h => exact .rp u hs (h3 _ hr) (fun j p hj => h1 _ _ _ hr (hc j p hj)) (fun j p hj => (h j p hj).mono h2 h2 h4 h4)
 | fn hs _ ih => exact .fn hs ih
 | mv hs _ ih => exact .mv hs ih
 | er => exact .er
 | nr h a b c => exact .nr (hm _ _ h) a b c
 | np h a => exact .np (hm _ _ h) a
 | ap h => exact .ap (hm _ _ h)
 | @dv v s rows w1 B h k =>
  cases s with
  | none => obtain ⟨rfl, rfl⟩ := h; exact .dv (w1 := w') (B := R') ⟨rfl, rfl⟩ (k.mono h1 h1 h3 h3)
  | some o => exact .dv (s := some o) (hm _ _ h) k
 | @dp s ad cells w1 B u h hs hb hc k =>
  cases s with
  | none => obtain ⟨rfl, rfl⟩ := h; exact .dp (w1 := w') (B := R') u ⟨rfl, rfl⟩ hs (h3 _ hb) (fun j p hj => h1 _ _ _ hb (hc j p hj)) (fun j p hj => (k j p hj).mono h1 h1 h3 h3)
  | some o => exact .dp (s := some o) u (hm _ _ h) hs hb hc k
def Blk : Option CM → OB → Nat → Prop
 | some (.box b), .box _, q => b = q
 | some (.box b), .arr _, q => b = q
 | some (.row A _ _), .row .own _ _ _, q => A.map (·.block) = some q
 | some (.row A _ _), .row .io _ _ _, q => A.map (·.block) = some q
 | some (.dat _ B), .dat _, q => B q
 | some (.tree g), .tree _ _, q => ∃ π ad c k, g π = some (some ad, c, k) ∧ ad.block = q
 | _, _, _ => False
def OB.mine : OB → Bool
 | .row .own _ _ _ | .tree .own _ => true
 | _ => false
def Own (m : Mp) (hp : Hp) (b : Nat) : Prop := ∃ o ob, look hp o = some ob ∧ Blk (m o) ob b
def Cells (w : World) (b : Nat) (e : TypeId) (cells : Array Value) : Prop := ∃ fr, w.heap[b]? = some (.cells cells e fr) ∧ (fr.1 ≤ fr.2 ∧ (wideT e = true → fr.1 = fr.2)) ∧ ∀ off, off < cells.size → w.frozen? ⟨b, off, none⟩ = false
def CB (w : World) (b : Nat) : Prop := ∃ e cells, Cells w b e cells
def TCell (g : List (Nat × Nat) → Option (Option Addr × Nat × Nat)) (π : List (Nat × Nat)) (v : Value) : PV → Prop
 | .sc v' => v = v' ∧ plain v' = true
 | .sl rs => ∃ A A' c k, g π = some (A, c, k) ∧ v = .slice A' rs.length c ∧ (A' = A ∨ c = 0) ∧ rs.length ≤ c
 | _ => False
def CellsT (w : World) (b k : Nat) (e : TypeId) (cells : Array Value) : Prop := Cells w b e cells ∧ (k = 1 ∨ wideT e = true)
structure TPart (w : World) (g : List (Nat × Nat) → Option (Option Addr × Nat × Nat)) (π : List (Nat × Nat)) (rs : List (List PV)) (A : Option Addr) (c k : Nat) : Prop where
 room : rs.length ≤ c
 pos : 0 < k
 nil : A = none → c = 0
 len : ∀ r ∈ rs, r.length = k
 mem : ∀ ad, A = some ad → ad.spot = none ∧ ∃ e cells, CellsT w ad.block k e cells ∧ ad.off + c * k ≤ cells.size ∧
  ∀ (i : Nat) (r : List PV) (j : Nat) (p : PV), rs[i]? = some r → r[j]? = some p → TCell g (π ++ [(i, j)]) (cells.getD (ad.off + (i * k + j)) undef) p
inductive ObOk (w : World) (m : Mp) (R U : Nat → Prop) : Option CM → OB → Prop
 | box {b : Nat} {e : TypeId} {cells : Array Value} {cs : List TV} : (∀ t ∈ cs, t.isCell = true) → Cells w b e cells → cells.size = cs.length → (∀ (j : Nat) (t : TV), cs[j]? = some t → RepT w m R U (cells.getD j undef) t) → ObOk w m R U (some (.box b)) (.box cs)
 | arr {b : Nat} {e : TypeId} {cells : Array Value} {ps : List PV} : Cells w b e cells → cells.size = ps.length → (∀ (j : Nat) (p : PV), ps[j]? = some p → Rep w U U (cells.getD j undef) p) → ObOk w m R U (some (.box b)) (.arr ps)
 | row {A : Option Addr} {c k e : Nat} {st : RS} {rows : List (List PV)} : rows.length ≤ c → 0 < k → (A = none → c = 0) → (∀ (r : List PV), r ∈ rows → r.length = k) →
     (∀ ad, A = some ad → ad.spot = none ∧ (st = .fz → U ad.block) ∧ ∃ cells, Cells w ad.block e cells ∧ ad.off + c * k ≤ cells.size ∧
      ∀ (i : Nat) (r : List PV) (j : Nat) (p : PV), rows[i]? = some r → r[j]? = some p → Rep w U U (cells.getD (ad.off + (i * k + j)) undef) p) → ObOk w m R U (some (.row A c k)) (.row st e k rows)
 | tree {g : List (Nat × Nat) → Option (Option Addr × Nat × Nat)} {st : RS} {rows : List (List PV)} : st ≠ .fz → (∀ π rs, tat rows π = some rs → ∃ A c k, g π = some (A, c, k) ∧ TPart w g π rs A c k) →
     (∀ π x, g π = some x → ∃ rs, tat rows π = some rs) → (∀ π π' ad ad' c c' k k', g π = some (some ad, c, k) → g π' = some (some ad', c', k') → ad.block = ad'.block → π = π') → ObOk w m R U (some (.tree g)) (.tree st rows)
 | dat {w1 : World} {B : Nat → Prop} {cl : Bool} : (∀ b, B b → ∃ e e1 cells cells1, Cells w b e cells ∧ Cells w1 b e1 cells1 ∧ cells.size = cells1.size ∧
     (∀ i, cells.getD i undef = cells1.getD i undef ∨ (plain (cells.getD i undef) = true ∧ plain (cells1.getD i undef) = true)) ∧ (cl = true → cells = cells1)) → ObOk w m R U (some (.dat w1 B)) (.dat cl)
 | dead {cm : Option CM} : ObOk w m R U cm .dead
structure Fr [Dd] (w0 : World) (own0 : Nat → Prop) (w : World) : Prop where
 os : w.os = w0.os
 tape : w.tape = w0.tape
 output : w.output = w0.output
 size : w0.heap.size ≤ w.heap.size
 block : ∀ b, b < w0.heap.size → ¬ own0 b → w.heap[b]? = w0.heap[b]?
 drawn : Dd.dd → w0.drawn ≤ w.drawn
structure Mem [Dd] (w0 : World) (own0 S : Nat → Prop) (hp : Hp) (w : World) (m : Mp) : Prop where
 fr : Fr w0 own0 w
 dom : ∀ o, look hp o = none → m o = none
 old : ∀ b, Own m hp b → b < w.heap.size ∧ (own0 b ∨ w0.heap.size ≤ b)
 sep : ∀ o o' ob ob' b, look hp o = some ob → look hp o' = some ob' → Blk (m o) ob b → Blk (m o') ob' b → o = o'
 nio : ∀ o ob b, look hp o = some ob → ob.mine = true → Blk (m o) ob b → w0.heap.size ≤ b
 sown : ∀ b, S b → b < w0.heap.size ∧ ¬ own0 b
 own0lt : ∀ b, own0 b → b < w0.heap.size
 obs : ∀ o ob, look hp o = some ob → ObOk w m (fun b => b < w.heap.size ∧ ¬ Own m hp b) (fun b => (b < w.heap.size ∧ ¬ Own m hp b) ∧ (S b ∨ (w0.heap.size ≤ b ∧ CB w b))) (m o) ob
abbrev RR (hp : Hp) (w : World) (m : Mp) : Nat → Prop := fun b => b < w.heap.size ∧ ¬ Own m hp b
abbrev UU (w0 : World) (S : Nat → Prop) (hp : Hp) (w : World) (m : Mp) : Nat → Prop := fun b => (b < w.heap.size ∧ ¬ Own m hp b) ∧ (S b ∨ (w0.heap.size ≤ b ∧ CB w b))
structure Inv [Dd] (w0 : World) (own0 S : Nat → Prop) (n : Nat) (s : St) (a : Act) (w : World) (m : Mp) : Prop where
 mem : Mem w0 own0 S s.hp w m
 tms : ∀ t x, look s.tm t = some x → RepT w m (RR s.hp w m) (UU w0 S s.hp w m) (a.tmps.getD t undef) x
 defers : a.defers = []
 size : n ≤ a.tmps.size
end Go.Pm
namespace Go.Pm
open Go
section
variable {α : Type}
theorem look_put_same (l : List (Nat × α)) (i : Nat) (a : α) : look (put l i a) i = some a := by
 induction l with
 | nil => simp [put, look]
 | cons x l ih =>
  obtain ⟨j, b⟩ := x
  simp only [put]
  split
  · simp [look]
  · split
    · simp [look]
    · simp only [look]; rw [if_neg (by assumption)]; exact ih
theorem look_put_other (l : List (Nat × α)) {i j : Nat} (a : α) (h : j ≠ i) : look (put l i a) j = look l j := by
 induction l with
 | nil => simp [put, look, h]
 | cons x l ih =>
  obtain ⟨q, b⟩ := x
  simp only [put]
  split
  · rename_i e; subst e; simp [look, h]
  · split
    · simp [look, h]
    · simp only [look]; split
      · rfl
      · exact ih
theorem look_put [Dd] (l : List (Nat × α)) (i j : Nat) (a : α) : look (put l i a) j = if j = i then some a else look l j := by
 by_cases h : j = i
 · subst h; simp [look_put_same]
 · simp [h, look_put_other _ _ h]
end
structure On [Dd] (w w' : World) : Prop where
 os : w'.os = w.os
 tape : w'.tape = w.tape
 output : w'.output = w.output
 size : w.heap.size ≤ w'.heap.size
 drawn : Dd.dd → w.drawn ≤ w'.drawn
theorem On.refl [Dd] (w : World) : On w w := ⟨rfl, rfl, rfl, Nat.le_refl _, fun _ => Nat.le_refl _⟩
theorem On.trans [Dd] {a b c : World} (h : On a b) (k : On b c) : On a c := ⟨k.os.trans h.os, k.tape.trans h.tape, k.output.trans h.output, Nat.le_trans h.size k.size, fun d => Nat.le_trans (h.drawn d) (k.drawn d)⟩
theorem Cells.of_block {w w' : World} {b : Nat} {e : TypeId} {cells : Array Value} (h : Cells w b e cells) (hb : w'.heap[b]? = w.heap[b]?) : Cells w' b e cells := by
 obtain ⟨fr, h1, h3, h2⟩ := h
 exact ⟨fr, hb.trans h1, h3, fun off ho => (World.frozen?_of_block (a := ⟨b, off, none⟩) hb).trans (h2 off ho)⟩
theorem Cells.lt {w : World} {b : Nat} {e : TypeId} {cells : Array Value} (h : Cells w b e cells) : b < w.heap.size := by
 obtain ⟨fr, h1, _⟩ := h
 exact (Array.getElem?_eq_some_iff.1 h1).1
theorem Cells.cell {w : World} {b : Nat} {e : TypeId} {cells : Array Value} (h : Cells w b e cells) (off : Nat) : w.cell? ⟨b, off, none⟩ = cells[off]? := by
 obtain ⟨fr, h1, _⟩ := h
 simp [World.cell?, h1]
theorem CB.of_block {w w' : World} {b : Nat} (h : CB w b) (hb : w'.heap[b]? = w.heap[b]?) : CB w' b := by
 obtain ⟨e, cells, h⟩ := h
 exact ⟨e, cells, h.of_block hb⟩
structure Goes [Dd] (hp : Hp) (w : World) (m : Mp) (hp' : Hp) (w' : World) (m' : Mp) : Prop where
 on : On w w'
 ext : ∀ o c, m o = some c → m' o = some c
 keep : ∀ b, b < w.heap.size → ¬ Own m hp b → w'.heap[b]? = w.heap[b]?
 own : ∀ b, Own m' hp' b → (Own m hp b ∨ w.heap.size ≤ b) ∧ b < w'.heap.size
 low : ∀ i, i < 16 → look hp i = none → look hp' i = none
section
variable {w0 : World} {own0 S : Nat → Prop} {hp hp' : Hp} {w w' : World} {m m' : Mp}
theorem Goes.rr [Dd] (g : Goes hp w m hp' w' m') (b : Nat) (h : RR hp w m b) : RR hp' w' m' b :=
 ⟨Nat.lt_of_lt_of_le h.1 g.on.size, fun ho => by
  rcases (g.own b ho).1 with h' | h'
  · exact h.2 h'
  · exact absurd h.1 (by omega)⟩
theorem Goes.uu [Dd] (g : Goes hp w m hp' w' m') (b : Nat) (h : UU w0 S hp w m b) : UU w0 S hp' w' m' b := ⟨g.rr b h.1, h.2.imp id fun h' => ⟨h'.1, h'.2.of_block (g.keep b h.1.1 h.1.2)⟩⟩
theorem Goes.keeps [Dd] (g : Goes hp w m hp' w' m') : Keeps w w' (RR hp w m) := Keeps.of_block fun b h hb => g.keep b hb h.2
theorem Goes.rep [Dd] (g : Goes hp w m hp' w' m') {v : Value} {p : PV} (h : Rep w (UU w0 S hp w m) (UU w0 S hp w m) v p) : Rep w' (UU w0 S hp' w' m') (UU w0 S hp' w' m') v p :=
 h.mono (g.keeps.mono fun _ h => h.1) (g.keeps.mono fun _ h => h.1) g.uu g.uu
theorem Goes.repT [Dd] (g : Goes hp w m hp' w' m') {v : Value} {t : TV} (h : RepT w m (RR hp w m) (UU w0 S hp w m) v t) : RepT w' m' (RR hp' w' m') (UU w0 S hp' w' m') v t :=
 h.mono g.ext g.keeps (g.keeps.mono fun _ h => h.1) g.rr g.uu
theorem TPart.keep {w w' : World} {gh : List (Nat × Nat) → Option (Option Addr × Nat × Nat)} {π : List (Nat × Nat)} {rs : List (List PV)} {A : Option Addr} {c k : Nat} (h : TPart w gh π rs A c k) (hb : ∀ ad, A = some ad → w'.heap[ad.block]? = w.heap[ad.block]?) : TPart w' gh π rs A c k :=
 ⟨h.room, h.pos, h.nil, h.len, fun ad hA => by
  obtain ⟨hs, e, cells, hc, hz, hr⟩ := h.mem ad hA
  exact ⟨hs, e, cells, ⟨hc.1.of_block (hb ad hA), hc.2⟩, hz, hr⟩⟩
theorem Goes.ob [Dd] (g : Goes hp w m hp' w' m') {cm : Option CM} {ob : OB} (h : ObOk w m (RR hp w m) (UU w0 S hp w m) cm ob) (hb : ∀ b, Blk cm ob b → w'.heap[b]? = w.heap[b]?) :
    ObOk w' m' (RR hp' w' m') (UU w0 S hp' w' m') cm ob := by
 cases h with
 | box hi hc hs ht => exact .box hi (hc.of_block (hb _ rfl)) hs (fun j t hj => g.repT (ht j t hj))
 | arr hc hs ht => exact .arr (hc.of_block (hb _ rfl)) hs (fun j t hj => g.rep (ht j t hj))
 | @row A c k e st rows h1 h2 h3 h4 h5 =>
  refine .row h1 h2 h3 h4 (fun ad hA => ?_)
  obtain ⟨hs, hf, cells, hc, hsz, hr⟩ := h5 ad hA
  refine ⟨hs, fun hz => g.uu _ (hf hz), cells, hc.of_block ?_, hsz, fun i r j p hi hj => g.rep (hr i r j p hi hj)⟩
  cases st with
  | own => exact hb _ (by simp [Blk, hA])
  | io => exact hb _ (by simp [Blk, hA])
  | fz => exact g.keep _ (hf rfl).1.1 (hf rfl).1.2
 | tree h1 h2 h3 h4 =>
  refine .tree h1 (fun π rs ht => ?_) h3 h4
  obtain ⟨A, c, k, hg, hp⟩ := h2 π rs ht
  exact ⟨A, c, k, hg, hp.keep fun ad hA => hb _ ⟨π, ad, c, k, hA ▸ hg, rfl⟩⟩
 | dat h =>
  refine .dat (fun b hB => ?_)
  obtain ⟨e, e1, cells, cells1, a, r⟩ := h b hB
  exact ⟨e, e1, cells, cells1, a.of_block (hb _ hB), r⟩
 | dead => exact .dead
theorem Fr.on [Dd] (h : Fr w0 own0 w) (g : Goes hp w m hp' w' m') (hold : ∀ b, Own m hp b → own0 b ∨ w0.heap.size ≤ b) : Fr w0 own0 w' :=
 ⟨g.on.os.trans h.os, g.on.tape.trans h.tape, g.on.output.trans h.output, Nat.le_trans h.size g.on.size, fun b hb hn => by
  rw [g.keep b (Nat.lt_of_lt_of_le hb h.size) (fun ho => by
   rcases hold b ho with h' | h'
   · exact hn h'
   · omega)]
  exact h.block b hb hn, fun d => Nat.le_trans (h.drawn d) (g.on.drawn d)⟩
theorem Mem.goes [Dd] (M : Mem w0 own0 S hp w m) (g : Goes hp w m hp' w' m') (hdom : ∀ o, look hp' o = none → m' o = none)
    (hsep : ∀ o o' ob ob' b, look hp' o = some ob → look hp' o' = some ob' → Blk (m' o) ob b → Blk (m' o') ob' b → o = o')
    (hnio : ∀ o ob b, look hp' o = some ob → ob.mine = true → Blk (m' o) ob b → w0.heap.size ≤ b)
    (hobs : ∀ o ob, look hp' o = some ob → (look hp o = some ob ∧ m' o = m o ∧ ∀ b, Blk (m o) ob b → w'.heap[b]? = w.heap[b]?) ∨ ObOk w' m' (RR hp' w' m') (UU w0 S hp' w' m') (m' o) ob) :
    Mem w0 own0 S hp' w' m' where
 fr := M.fr.on g fun b h => (M.old b h).2
 dom := hdom
 old b h := by
  obtain ⟨h1, h2⟩ := g.own b h
  refine ⟨h2, ?_⟩
  rcases h1 with h1 | h1
  · exact (M.old b h1).2
  · exact .inr (Nat.le_trans M.fr.size h1)
 sep := hsep
 nio := hnio
 sown := M.sown
 own0lt := M.own0lt
 obs o ob h := by
  rcases hobs o ob h with ⟨h1, h2, h3⟩ | h1
  · rw [h2]; exact g.ob (M.obs o ob h1) h3
  · exact h1
end
end Go.Pm
namespace Go.Pm
open Go
theorem TPart.like {w : World} {g : List (Nat × Nat) → Option (Option Addr × Nat × Nat)} {π : List (Nat × Nat)} {rs rs' : List (List PV)} {A : Option Addr} {c k : Nat} (h : TPart w g π rs A c k) (hl : LikeR rs rs')
    (hp : ∀ (i : Nat) (r' : List PV) (j : Nat) (p' : PV), rs'[i]? = some r' → r'[j]? = some p' → (∀ q : List (List PV), p' ≠ PV.sl q) → ∃ r : List PV, rs[i]? = some r ∧ r[j]? = some p') : TPart w g π rs' A c k := by
 refine ⟨by rw [← hl.1]; exact h.room, h.pos, h.nil, fun r hr => ?_, fun ad hA => ?_⟩
 · obtain ⟨i, hi⟩ := List.getElem?_of_mem hr
   obtain ⟨r0, h1, h2, _⟩ := hl.2 i r hi
   rw [← h2]
   exact h.len r0 (List.mem_of_getElem? h1)
 · obtain ⟨hs, e, cells, hc, hz, hr⟩ := h.mem ad hA
   refine ⟨hs, e, cells, hc, hz, fun i r j p hi hj => ?_⟩
   obtain ⟨r0, h1, _, h3⟩ := hl.2 i r hi
   obtain ⟨p0, h4, h5⟩ := h3 j p hj
   have h6 := hr i r0 j p0 h1 h4
   cases p with
   | sl q =>
    cases p0 with
    | sl q0 =>
     obtain ⟨A1, A2, c1, k1, a1, a2, a4, a3⟩ := h6
     have : q0.length = q.length := h5
     exact ⟨A1, A2, c1, k1, a1, by rw [← this]; exact a2, a4, by omega⟩
    | _ => exact h5.elim
   | _ =>
    obtain ⟨r1, b1, b2⟩ := hp i r j _ hi hj (fun q e => by cases e)
    exact hr i r1 j _ b1 b2
theorem tree_put {w w' : World} {m m' : Mp} {R U R' U' : Nat → Prop} {g : List (Nat × Nat) → Option (Option Addr × Nat × Nat)} {st : RS} {rows rs new : List (List PV)} {π : List (Nat × Nat)} {ad : Addr} {c k : Nat}
    (hob : ObOk w m R U (some (.tree g)) (.tree st rows)) (ht : tat rows π = some rs) (hg : g π = some (some ad, c, k)) (hl : rs.length = new.length)
    (h1 : ∀ π2 rs2, π2 ≠ [] → tat new π2 = some rs2 → tat rs π2 = some rs2) (h2 : ∀ π2 rs2, π2 ≠ [] → tat rs π2 = some rs2 → ∃ rs3, tat new π2 = some rs3)
    (hk : ∀ b, b ≠ ad.block → w'.heap[b]? = w.heap[b]?) (hnew : TPart w' g π new (some ad) c k) : ObOk w' m' R' U' (some (.tree g)) (.tree st (tset rows π new)) := by
 cases hob with
 | tree k1 k2 k3 k4 =>
  refine .tree k1 (fun π' rs' ht' => ?_) (fun π' x hx => ?_) k4
  · rcases tat_tset ht hl ht' with ⟨π2, rfl, a⟩ | ⟨rs0, a1, a2, a3, a4⟩
    · by_cases e : π2 = []
      · subst e
        simp only [tat] at a
        cases a
        rw [List.append_nil]
        exact ⟨some ad, c, k, hg, hnew⟩
      · obtain ⟨A, c', k', b1, b2⟩ := k2 _ _ (tat_append.2 ⟨rs, ht, h1 _ _ e a⟩)
        refine ⟨A, c', k', b1, b2.keep fun ad' hA => hk _ fun e' => e ?_⟩
        subst hA
        have := k4 _ _ _ _ _ _ _ _ b1 hg e'
        simpa using this
    · obtain ⟨A, c', k', b1, b2⟩ := k2 _ _ a1
      refine ⟨A, c', k', b1, (b2.like a2 a3).keep fun ad' hA => hk _ fun e' => ?_⟩
      subst hA
      exact a4 [] (by rw [List.append_nil]; exact k4 _ _ _ _ _ _ _ _ b1 hg e')
  · obtain ⟨rs1, a⟩ := k3 π' x hx
    exact tset_tat ht (fun π2 rs2 b => by
     cases π2 with
     | nil => exact ⟨new, rfl⟩
     | cons y π2 => exact h2 _ _ (by simp) b) a
abbrev GMap := List (Nat × Nat) → Option (Option Addr × Nat × Nat)
structure Tree (w : World) (g : GMap) (rows : List (List PV)) : Prop where
 part : ∀ π rs, tat rows π = some rs → ∃ A c k, g π = some (A, c, k) ∧ TPart w g π rs A c k
 dom : ∀ π x, g π = some x → ∃ rs, tat rows π = some rs
 inj : ∀ π π' ad ad' c c' k k', g π = some (some ad, c, k) → g π' = some (some ad', c', k') → ad.block = ad'.block → π = π'
def TBlk (g : GMap) (q : Nat) : Prop := ∃ π ad c k, g π = some (some ad, c, k) ∧ ad.block = q
theorem Tree.keep {w w' : World} {g : GMap} {rows : List (List PV)} (h : Tree w g rows) (hb : ∀ q, TBlk g q → w'.heap[q]? = w.heap[q]?) : Tree w' g rows :=
 ⟨fun π rs ht => by
  obtain ⟨A, c, k, hg, hp⟩ := h.part π rs ht
  exact ⟨A, c, k, hg, hp.keep fun ad hA => hb _ ⟨π, ad, c, k, hA ▸ hg, rfl⟩⟩, h.dom, h.inj⟩
theorem Tree.lt {w : World} {g : GMap} {rows : List (List PV)} (h : Tree w g rows) {q : Nat} (hq : TBlk g q) : q < w.heap.size := by
 obtain ⟨π, ad, c, k, h1, rfl⟩ := hq
 obtain ⟨rs, ht⟩ := h.dom π _ h1
 obtain ⟨A, c', k', h2, h3⟩ := h.part π rs ht
 rw [h1] at h2
 cases h2
 obtain ⟨_, e, cells, h4, _⟩ := h3.mem ad rfl
 exact h4.1.lt
theorem tree_rep {w : World} {g : GMap} {rows : List (List PV)} {R : Nat → Prop} (h : Tree w g rows) (hR : ∀ q, TBlk g q → R q) : ∀ (n : Nat) (π : List (Nat × Nat)) (rs : List (List PV)) (A : Option Addr) (c k : Nat), SizeOf.sizeOf rs ≤ n → tat rows π = some rs → g π = some (A, c, k) → Rep w R R (.slice A rs.length c) (.sl rs) := by
 intro n
 induction n with
 | zero => intro π rs A c k hn; cases rs <;> simp at hn
 | succ n ih =>
  intro π rs A c k hn ht hg
  obtain ⟨A', c', k', h1, h2⟩ := h.part π rs ht
  rw [hg] at h1
  cases h1
  by_cases he : rs = []
  · subst he; exact .nil
  have hpos : 0 < rs.length := List.length_pos_iff.2 he
  cases A with
  | none =>
   have h3 := h2.nil rfl
   have h4 := h2.room
   omega
  | some ad =>
   obtain ⟨a1, e, cells, a2, a3, a4⟩ := h2.mem ad rfl
   obtain ⟨bl, of_, sp⟩ := ad
   simp only at a1
   subst a1
   dsimp only at a2 a3 a4
   refine .sl (k := k) (fun i j => cells.getD (of_ + (i * k + j)) undef) rfl (hR bl ⟨π, _, _, _, hg, rfl⟩) h2.room (fun i r hi => h2.len r (List.mem_of_getElem? hi)) (fun i r j p hi hj => ?_) (fun i r j p hi hj => ?_)
   · have hil : i < rs.length := (List.getElem?_eq_some_iff.1 hi).1
     have hjl : j < k := by rw [← h2.len r (List.mem_of_getElem? hi)]; exact (List.getElem?_eq_some_iff.1 hj).1
     have h5 : (i + 1) * k ≤ rs.length * k := Nat.mul_le_mul_right _ hil
     have h6 : rs.length * k ≤ c * k := Nat.mul_le_mul_right _ h2.room
     rw [Nat.add_mul, Nat.one_mul] at h5
     rw [a2.1.cell]
     have hlt : of_ + (i * k + j) < cells.size := by omega
     simp [Array.getD_eq_getD_getElem?, hlt]
   · have := a4 i r j p hi hj
     cases p with
     | sc v' => obtain ⟨e1, e2⟩ := this; rw [e1]; exact .sc e2
     | sl rs0 =>
      obtain ⟨B, B', c1, k1, b1, b2, b3, b4⟩ := this
      have hs : SizeOf.sizeOf rs0 ≤ n := by
       have q1 := List.sizeOf_lt_of_mem (List.mem_of_getElem? hi)
       have q2 := List.sizeOf_lt_of_mem (List.mem_of_getElem? hj)
       simp at q2
       omega
      have ht2 : tat rows (π ++ [(i, j)]) = some rs0 := tat_append.2 ⟨rs, ht, tat_cons.2 ⟨r, rs0, hi, hj, rfl⟩⟩
      rw [b2]
      rcases b3 with rfl | b3
      · exact ih _ rs0 B' c1 k1 hs ht2 b1
      · have : rs0 = [] := List.eq_nil_of_length_eq_zero (by omega)
        subst this
        exact .nil
     | pt => exact this.elim
     | cl => exact this.elim
end Go.Pm
namespace Go.Pm
open Go
def upd (m : Mp) (i : Nat) (c : CM) : Mp := fun o => if o = i then some c else m o
theorem upd_same (m : Mp) (i : Nat) (c : CM) : upd m i c i = some c := by simp [upd]
theorem upd_other (m : Mp) {i o : Nat} (c : CM) (h : o ≠ i) : upd m i c o = m o := by simp [upd, h]
section
variable {w0 : World} {own0 S : Nat → Prop} {hp : Hp} {w w' : World} {m : Mp} {id : Nat} {cm : CM} {ob ob' : OB}
theorem Goes.trans [Dd] {hp2 hp3 : Hp} {w2 w3 : World} {m2 m3 : Mp} (g : Goes hp w m hp2 w2 m2) (h : Goes hp2 w2 m2 hp3 w3 m3) : Goes hp w m hp3 w3 m3 where
 on := g.on.trans h.on
 ext o c hc := h.ext o c (g.ext o c hc)
 keep b hb hn := (h.keep b (Nat.lt_of_lt_of_le hb g.on.size) (fun ho => by
  rcases (g.own b ho).1 with h' | h'
  · exact hn h'
  · omega)).trans (g.keep b hb hn)
 own b hb := by
  obtain ⟨h1, h2⟩ := h.own b hb
  refine ⟨?_, h2⟩
  rcases h1 with h1 | h1
  · exact (g.own b h1).1
  · exact .inr (Nat.le_trans g.on.size h1)
 low i hi hl := h.low i hi (g.low i hi hl)
theorem Goes.refl [Dd] (M : Mem w0 own0 S hp w m) : Goes hp w m hp w m := ⟨On.refl _, fun _ _ h => h, fun _ _ _ => rfl, fun b h => ⟨.inl h, (M.old b h).1⟩, fun _ _ h => h⟩
theorem Goes.world [Dd] (M : Mem w0 own0 S hp w m) (on : On w w') (h : ∀ b, b < w.heap.size → w'.heap[b]? = w.heap[b]?) : Goes hp w m hp w' m :=
 ⟨on, fun _ _ h => h, fun b hb _ => h b hb, fun b h => ⟨.inl h, Nat.lt_of_lt_of_le (M.old b h).1 on.size⟩, fun _ _ h => h⟩
theorem Mem.world [Dd] (M : Mem w0 own0 S hp w m) (on : On w w') (h : ∀ b, b < w.heap.size → w'.heap[b]? = w.heap[b]?) : Mem w0 own0 S hp w' m :=
 M.goes (Goes.world M on h) M.dom M.sep M.nio fun o ob ho => .inl ⟨ho, rfl, fun b hb => h b (M.old b ⟨o, ob, ho, hb⟩).1⟩
theorem Goes.new [Dd] (M : Mem w0 own0 S hp w m) (on : On w w') (hk : ∀ b, b < w.heap.size → w'.heap[b]? = w.heap[b]?) (h16 : 16 ≤ id) (hid : look hp id = none)
    (hb : ∀ b, Blk (some cm) ob b → w.heap.size ≤ b ∧ b < w'.heap.size) : Goes hp w m (put hp id ob) w' (upd m id cm) where
 on := on
 ext o c h := by
  have : o ≠ id := fun e => by rw [e, M.dom id hid] at h; cases h
  rw [upd_other m cm this]; exact h
 keep b h _ := hk b h
 own b h := by
  obtain ⟨o, ob', h1, h2⟩ := h
  rw [look_put] at h1
  split at h1
  · rename_i e
    subst e
    cases h1
    rw [upd_same] at h2
    exact ⟨.inr (hb b h2).1, (hb b h2).2⟩
  · rename_i e
    rw [upd_other m cm e] at h2
    exact ⟨.inl ⟨o, ob', h1, h2⟩, Nat.lt_of_lt_of_le (M.old b ⟨o, ob', h1, h2⟩).1 on.size⟩
 low i hi hl := by rw [look_put_other _ _ (by omega)]; exact hl
theorem Mem.new [Dd] (M : Mem w0 own0 S hp w m) (on : On w w') (hk : ∀ b, b < w.heap.size → w'.heap[b]? = w.heap[b]?) (h16 : 16 ≤ id) (hid : look hp id = none)
    (hb : ∀ b, Blk (some cm) ob b → w.heap.size ≤ b ∧ b < w'.heap.size)
    (hob : ObOk w' (upd m id cm) (RR (put hp id ob) w' (upd m id cm)) (UU w0 S (put hp id ob) w' (upd m id cm)) (some cm) ob) : Mem w0 own0 S (put hp id ob) w' (upd m id cm) := by
 refine M.goes (Goes.new M on hk h16 hid hb) ?_ ?_ ?_ ?_
 · intro o ho
   rw [look_put] at ho
   split at ho
   · cases ho
   · rename_i e; rw [upd_other m cm e]; exact M.dom o ho
 · intro o o' x x' b h1 h2 h3 h4
   rw [look_put] at h1 h2
   split at h1
   · rename_i e
     split at h2
     · rename_i e'; rw [e, e']
     · rename_i e'
       subst e
       cases h1
       rw [upd_same] at h3
       rw [upd_other m cm e'] at h4
       have := (M.old b ⟨o', x', h2, h4⟩).1
       have := (hb b h3).1
       omega
   · rename_i e
     rw [upd_other m cm e] at h3
     split at h2
     · rename_i e'
       subst e'
       cases h2
       rw [upd_same] at h4
       have := (M.old b ⟨o, x, h1, h3⟩).1
       have := (hb b h4).1
       omega
     · rename_i e'
       rw [upd_other m cm e'] at h4
       exact M.sep o o' x x' b h1 h2 h3 h4
 · intro o x b h1 hmi h2
   rw [look_put] at h1
   split at h1
   · rename_i e'
     subst e'
     cases h1
     rw [upd_same] at h2
     exact Nat.le_trans M.fr.size (hb b h2).1
   · rename_i e'
     rw [upd_other m cm e'] at h2
     exact M.nio o x b h1 hmi h2
 · intro o x h
   rw [look_put] at h
   split at h
   · rename_i e
     subst e
     cases h
     rw [upd_same]
     exact .inr hob
   · rename_i e
     exact .inl ⟨h, upd_other m cm e, fun b hb' => hk b (M.old b ⟨o, x, h, hb'⟩).1⟩
theorem Goes.put [Dd] (M : Mem w0 own0 S hp w m) (on : On w w') (hl : look hp id = some ob) (hbl : ∀ b, Blk (m id) ob' b → Blk (m id) ob b)
    (hk : ∀ b, b < w.heap.size → ¬ Blk (m id) ob b → w'.heap[b]? = w.heap[b]?) : Goes hp w m (put hp id ob') w' m where
 on := on
 ext _ _ h := h
 keep b h hn := hk b h fun e => hn ⟨id, ob, hl, e⟩
 own b h := by
  obtain ⟨o, x, h1, h2⟩ := h
  rw [look_put] at h1
  split at h1
  · rename_i e
    subst e
    cases h1
    have h3 : Own m hp b := ⟨o, ob, hl, hbl b h2⟩
    exact ⟨.inl h3, Nat.lt_of_lt_of_le (M.old b h3).1 on.size⟩
  · have h3 : Own m hp b := ⟨o, x, h1, h2⟩
    exact ⟨.inl h3, Nat.lt_of_lt_of_le (M.old b h3).1 on.size⟩
 low i hi hl' := by
  have : i ≠ id := fun e => by rw [e, hl] at hl'; cases hl'
  rw [look_put_other _ _ this]; exact hl'
theorem Mem.put [Dd] (M : Mem w0 own0 S hp w m) (on : On w w') (hl : look hp id = some ob) (hbl : ∀ b, Blk (m id) ob' b → Blk (m id) ob b)
    (hk : ∀ b, b < w.heap.size → ¬ Blk (m id) ob b → w'.heap[b]? = w.heap[b]?)
    (hni : ∀ b, ob'.mine = true → Blk (m id) ob' b → w0.heap.size ≤ b)
    (hob : ObOk w' m (RR (put hp id ob') w' m) (UU w0 S (put hp id ob') w' m) (m id) ob') : Mem w0 own0 S (put hp id ob') w' m := by
 refine M.goes (Goes.put M on hl hbl hk) ?_ ?_ ?_ ?_
 · intro o ho
   rw [look_put] at ho
   split at ho
   · cases ho
   · exact M.dom o ho
 · intro o o' x x' b h1 h2 h3 h4
   have back : ∀ q y, look (Pm.put hp id ob') q = some y → Blk (m q) y b → ∃ y', look hp q = some y' ∧ Blk (m q) y' b := by
    intro q y hq hy
    rw [look_put] at hq
    split at hq
    · rename_i e; subst e; cases hq; exact ⟨ob, hl, hbl b hy⟩
    · exact ⟨y, hq, hy⟩
   obtain ⟨y, a1, a2⟩ := back o x h1 h3
   obtain ⟨y', b1, b2⟩ := back o' x' h2 h4
   exact M.sep o o' y y' b a1 b1 a2 b2
 · intro o x b h1 hmi h2
   rw [look_put] at h1
   split at h1
   · rename_i e'
     subst e'
     cases h1
     exact hni b hmi h2
   · exact M.nio o x b h1 hmi h2
 · intro o x h
   rw [look_put] at h
   split at h
   · rename_i e
     subst e
     cases h
     exact .inr hob
   · rename_i e
     refine .inl ⟨h, rfl, fun b hb => hk b (M.old b ⟨o, x, h, hb⟩).1 fun e' => e (M.sep o id x ob b h hl hb e')⟩
theorem Mem.freeze [Dd] (M : Mem w0 own0 S hp w m) {st : RS} {e k : Nat} {rows : List (List PV)} (hl : look hp id = some (.row st e k rows)) (hio : st ≠ .io) :
    Mem w0 own0 S (Pm.put hp id (.row .fz e k rows)) w m ∧ Goes hp w m (Pm.put hp id (.row .fz e k rows)) w m := by
 have hbl : ∀ b, Blk (m id) (.row .fz e k rows) b → Blk (m id) (.row st e k rows) b := fun b h => by
  cases hm : m id with
  | none => rw [hm] at h; simp [Blk] at h
  | some c => rw [hm] at h; cases c <;> simp [Blk] at h
 have g := Goes.put M (On.refl w) hl hbl (fun _ _ _ => rfl)
 refine ⟨M.put (On.refl w) hl hbl (fun _ _ _ => rfl) (fun _ h => by cases h) ?_, g⟩
 have h0 := M.obs id _ hl
 cases hm : m id with
 | none => rw [hm] at h0; cases h0
 | some cm =>
  rw [hm] at h0
  cases h0 with
  | @row A c k' e' st' rows' h1 h2 h3 h4 h5 =>
   refine .row h1 h2 h3 h4 (fun ad hA => ?_)
   obtain ⟨hs, hf, cells, hc, hsz, hr⟩ := h5 ad hA
   refine ⟨hs, fun _ => ?_, cells, hc, hsz, fun i r j p hi hj => g.rep (hr i r j p hi hj)⟩
   cases st with
   | fz => exact g.uu _ (hf rfl)
   | io => exact absurd rfl hio
   | own =>
    have hb : Blk (m id) (.row .own e k rows) ad.block := by rw [hm]; simp [Blk, hA]
    refine ⟨⟨hc.lt, fun ho => ?_⟩, .inr ⟨M.nio id _ _ hl rfl hb, _, _, hc⟩⟩
    obtain ⟨o, x, q1, q2⟩ := ho
    rw [look_put] at q1
    split at q1
    · rename_i e'
      subst e'
      cases q1
      rw [hm] at q2
      simp [Blk] at q2
    · rename_i e'
      exact e' (M.sep o id x _ _ q1 hl q2 hb)
theorem Mem.kill [Dd] (M : Mem w0 own0 S hp w m) (hl : look hp id = some ob) : Mem w0 own0 S (Pm.put hp id .dead) w m ∧ Goes hp w m (Pm.put hp id .dead) w m := by
 have hbl : ∀ b, Blk (m id) .dead b → Blk (m id) ob b := fun b h => by
  cases hm : m id with
  | none => rw [hm] at h; simp [Blk] at h
  | some c => rw [hm] at h; cases c <;> simp [Blk] at h
 exact ⟨M.put (On.refl w) hl hbl (fun _ _ _ => rfl) (fun _ h => by cases h) .dead, Goes.put M (On.refl w) hl hbl (fun _ _ _ => rfl)⟩
end
end Go.Pm
namespace Go.Pm
open Go
def vEq : Value → Value → Bool
 | .int k a, .int k' b => k == k' && a == b
 | .bool a, .bool b => a == b
 | .string a, .string b => a.data.toList.isEmpty && b.data.toList.isEmpty
 | .pointer none, .pointer none => true
 | .nilFunc, .nilFunc => true
 | .nilIface, .nilIface => true
 | .map none, .map none => true
 | .chan none, .chan none => true
 | _, _ => false
theorem vEq_eq {a b : Value} (h : vEq a b = true) : a = b := by
 unfold vEq at h
 split at h
 · simp at h; rw [h.1, h.2]
 · simp at h; rw [h]
 · rename_i a b
   simp at h
   obtain ⟨⟨a⟩⟩ := a
   obtain ⟨⟨b⟩⟩ := b
   simp at h
   rw [h.1, h.2]
 all_goals first | rfl | cases h
def zCell : Value → TV → Bool
 | .slice none 0 0, .nl => true
 | v, .pv false (.sc u) => plain v && vEq v u
 | _, _ => false
def zPv : Value → PV → Bool
 | .slice none 0 0, .sl [] => true
 | v, .sc u => plain v && vEq v u
 | _, _ => false
def zAll {α : Type} (f : Value → α → Bool) : List Value → List α → Bool
 | [], [] => true
 | v :: l, t :: l' => f v t && zAll f l l'
 | _, _ => false
def zOk : Value → TV → Bool
 | .agg arr, .ag cs => zAll zCell arr.toList cs
 | .agg arr, .ar ps => zAll zPv arr.toList ps
 | v, t => zCell v t
def allOk {α : Type} (f : Nat → α → Bool) : Nat → List α → Bool
 | _, [] => true
 | i, a :: l => f i a && allOk f (i + 1) l
def dOk (P : Program) : TypeDesc → TK → Bool
 | .int k, .int k' => k == k'
 | .bool, .bool => true
 | .string, .str => true
 | .slice e, .slice e' => e == e'
 | .array n e, .arr n' e' => n == n' && e == e'
 | .pointer e, .ptr e' => e == e'
 | .interface _, .ifc => true
 | .struct fields, .struct fs => fields.size == fs.length && allOk (fun i (p : Nat × Nat) => match fields[i]? with
  | some f => f.offset == p.1 && f.type == p.2 && (match P.info? f.type with | some ti => ti.size != 0 | none => false)
  | none => false) 0 fs
 | .struct _, .other => false
 | .array .., .other => false
 | _, .other => true
 | _, _ => false
def tyOk (P : Program) (t : Nat) (i : TI) : Bool := match P.info? t, P.underlying t with
 | some ti, some d => ti.size == i.size && ti.bytes == i.bytes && (match ti.zero with | some z => z.cells.size == i.size && zOk z i.zero | none => false) && dOk P d i.kind
 | _, _ => false
theorem allOk_get {α : Type} {f : Nat → α → Bool} : ∀ {l : List α} {k i : Nat} {a : α}, allOk f k l = true → l[i]? = some a → f (k + i) a = true := by
 intro l
 induction l with
 | nil => intro k i a _ h; simp at h
 | cons x l ih =>
  intro k i a h hi
  simp only [allOk, Bool.and_eq_true] at h
  cases i with
  | zero => simp at hi; rw [← hi]; exact h.1
  | succ i => simp at hi; have := ih h.2 hi; rwa [show k + 1 + i = k + (i + 1) by omega] at this
theorem zAll_get {α : Type} {f : Value → α → Bool} : ∀ {l : List Value} {l' : List α}, zAll f l l' = true → l.length = l'.length ∧ ∀ j t, l'[j]? = some t → f (l.getD j undef) t = true := by
 intro l
 induction l with
 | nil => intro l' h; cases l' with
  | nil => exact ⟨rfl, fun j t h => by simp at h⟩
  | cons => simp [zAll] at h
 | cons x l ih =>
  intro l' h
  cases l' with
  | nil => simp [zAll] at h
  | cons y l' =>
   simp only [zAll, Bool.and_eq_true] at h
   obtain ⟨h1, h2⟩ := ih h.2
   refine ⟨by simp [h1], fun j t hj => ?_⟩
   cases j with
   | zero => simp at hj ⊢; rw [← hj]; exact h.1
   | succ j => simp at hj ⊢; have := h2 j t hj; simpa using this
section
variable {w : World} {m : Mp} {R U : Nat → Prop}
theorem zPv_rep [Dd] {v : Value} {p : PV} (h : zPv v p = true) (w : World) (R U : Nat → Prop) : Rep w R U v p := by
 unfold zPv at h
 split at h
 · exact .nil
 · simp at h; rw [← vEq_eq h.2]; exact .sc h.1
 · cases h
theorem zCell_rep [Dd] {v : Value} {t : TV} (h : zCell v t = true) (w : World) (m : Mp) (R U : Nat → Prop) : RepT w m R U v t := by
 unfold zCell at h
 split at h
 · exact .nl
 · simp at h; rw [← vEq_eq h.2]; exact .pv (.sc h.1)
 · cases h
theorem zCell_isCell {v : Value} {t : TV} (h : zCell v t = true) : t.isCell = true := by
 unfold zCell at h
 split at h
 · rfl
 · rfl
 · cases h
theorem zAll_cell [Dd] : ∀ {l : List Value} {l' : List TV}, zAll zCell l l' = true → ∀ t ∈ l', t.isCell = true
 | [], [], _, t, ht => by cases ht
 | v :: l, x :: l', h, t, ht => by
  simp only [zAll, Bool.and_eq_true] at h
  cases ht with
  | head => exact zCell_isCell h.1
  | tail _ ht => exact zAll_cell h.2 t ht
 | [], _ :: _, h, _, _ => by simp [zAll] at h
 | _ :: _, [], h, _, _ => by simp [zAll] at h
theorem zOk_rep [Dd] {v : Value} {t : TV} (h : zOk v t = true) (w : World) (m : Mp) (R U : Nat → Prop) : RepT w m R U v t := by
 unfold zOk at h
 split at h
 · obtain ⟨h1, h2⟩ := zAll_get h
   exact .ag (zAll_cell h) (by simpa using h1) (fun j t hj => zCell_rep (by simpa [Array.getD_eq_getD_getElem?] using h2 j t hj) w m R U)
 · obtain ⟨h1, h2⟩ := zAll_get h
   exact .ar (by simpa using h1) (fun j t hj => zPv_rep (by simpa [Array.getD_eq_getD_getElem?] using h2 j t hj) w U U)
 · exact zCell_rep h w m R U
end
structure TyOk (P : Program) (t : Nat) (i : TI) : Prop where
 info : ∃ ti, P.info? t = some ti ∧ ti.size = i.size ∧ ti.bytes = i.bytes ∧ ∃ z, ti.zero = some z ∧ z.cells.size = i.size ∧ zOk z i.zero = true
 desc : ∃ d, P.underlying t = some d ∧ dOk P d i.kind = true
theorem tyOk_of {P : Program} {t : Nat} {i : TI} (h : tyOk P t i = true) : TyOk P t i := by
 unfold tyOk at h
 split at h
 · rename_i ti d h1 h2
   simp only [Bool.and_eq_true, beq_iff_eq] at h
   obtain ⟨⟨⟨a, b⟩, c⟩, e⟩ := h
   refine ⟨⟨ti, h1, a, b, ?_⟩, ⟨d, h2, e⟩⟩
   split at c
   · rename_i z hz
     simp only [Bool.and_eq_true, beq_iff_eq] at c
     exact ⟨z, hz, c.1, c.2⟩
   · cases c
 · cases h
def TabOk (C : Cfg) : Prop := ∀ t i, C.T t = some i → TyOk C.P t i
section
variable {P : Program} {t : Nat} {i : TI} (h : TyOk P t i) (w : World)
include h
theorem TyOk.size : (sizeOf t).run P w = .ok i.size w := by
 obtain ⟨ti, h1, h2, _⟩ := h.info
 simp [sizeOf, typeInfo, h1, h2]
theorem TyOk.und : ∃ d, (underlying t).run P w = .ok d w ∧ dOk P d i.kind = true := by
 obtain ⟨d, h1, h2⟩ := h.desc
 exact ⟨d, run_underlying h1 w, h2⟩
theorem TyOk.agg [Dd] : (isAgg t).run P w = .ok i.kind.agg w := by
 obtain ⟨d, h1, h2⟩ := h.und w
 simp only [isAgg, Sem.run_bind, h1, Result.andThen_ok]
 cases hd : d <;> cases hk : i.kind <;> simp [hd, hk, dOk, TK.agg] at h2 ⊢
theorem TyOk.sl [Dd] {e : Nat} (he : i.kind = .slice e) : (underlying t).run P w = .ok (.slice e) w := by
 obtain ⟨d, h1, h2⟩ := h.und w
 rw [h1]; cases d <;> simp [he, dOk] at h2; rw [h2]
theorem TyOk.strct [Dd] {fs : List (Nat × Nat)} (he : i.kind = .struct fs) : ∃ fields, (underlying t).run P w = .ok (.struct fields) w ∧ fields.size = fs.length ∧
    ∀ (j : Nat) (p : Nat × Nat), fs[j]? = some p → ∃ f : Field, fields[j]? = some f ∧ f.offset = p.1 ∧ f.type = p.2 ∧ ∃ ti, P.info? f.type = some ti ∧ ti.size ≠ 0 := by
 obtain ⟨d, h1, h2⟩ := h.und w
 cases d <;> simp [he, dOk] at h2
 rename_i fields
 refine ⟨fields, h1, h2.1, fun j p hj => ?_⟩
 have := allOk_get h2.2 hj
 simp only [Nat.zero_add] at this
 split at this
 · rename_i f hf
   simp only [Bool.and_eq_true, beq_iff_eq] at this
   refine ⟨f, hf, this.1.1, this.1.2, ?_⟩
   have h3 := this.2
   split at h3
   · rename_i ti hti; exact ⟨ti, hti, by simpa using h3⟩
   · cases h3
 · cases this
theorem TyOk.zero : ∃ z, (zeroValue t).run P w = .ok z w ∧ z.cells.size = i.size ∧ zOk z i.zero = true := by
 obtain ⟨ti, h1, h2, _, z, h3, h4, h5⟩ := h.info
 exact ⟨z, by simp [zeroValue, typeInfo, h1, h3], h4, h5⟩
theorem TyOk.bytes : ∃ ti, (typeInfo t).run P w = .ok ti w ∧ ti.bytes = i.bytes ∧ ti.size = i.size := by
 obtain ⟨ti, h1, h2, h3, _⟩ := h.info
 exact ⟨ti, by simp [typeInfo, h1], h3, h2⟩
end
section
variable {P : Program} {t : Nat} {i : TI} (h : TyOk P t i) {w : World}
include h
theorem TyOk.load_agg [Dd] (ha : i.kind.agg = true) {b off : Nat} (f : Nat → Value) (hc : ∀ j, j < i.size → w.cell? ⟨b, off + j, none⟩ = some (f j)) :
    (loadVar t ⟨b, off, none⟩).run P w = .ok (.agg ((List.range i.size).map f).toArray) w := by
 have hl := run_loadCells (P := P) w ⟨b, off, none⟩ i.size f (fun j hj => by rw [Addr.add_lit]; exact hc j hj)
 simp only [loadVar, Sem.run_bind, h.agg w, ha, Result.andThen_ok, if_true, h.size w, hl, Sem.run_pure]
theorem TyOk.iload_agg [Dd] (ha : i.kind.agg = true) {b off : Nat} (f : Nat → Value) (hc : ∀ j, j < i.size → w.cell? ⟨b, off + j, none⟩ = some (f j)) :
    (Instr.loadAt t (.pointer (some ⟨b, off, none⟩))).run P w = .ok (.agg ((List.range i.size).map f).toArray) w := by
 simp only [Instr.loadAt, Instr.sureAddr, Sem.run_bind, Sem.run_pure, Result.andThen_ok]
 exact h.load_agg ha f hc
theorem TyOk.iload_one [Dd] (ha : i.kind.agg = false) {a : Addr} {v : Value} (hc : w.cell? a = some v) : (Instr.loadAt t (.pointer (some a))).run P w = .ok v w := by
 simp [Instr.loadAt, Instr.sureAddr, loadVar, h.agg w, ha, hc]
end
theorem repAg {w : World} {m : Mp} {R U : Nat → Prop} {f : Nat → Value} {n : Nat} {cs : List TV} (hi : ∀ t ∈ cs, t.isCell = true) (hn : cs.length = n) (h : ∀ j t, cs[j]? = some t → RepT w m R U (f j) t) :
    RepT w m R U (.agg ((List.range n).map f).toArray) (.ag cs) := by
 refine .ag hi (by simp [hn]) (fun j t hj => ?_)
 have hlt : j < n := by rw [← hn]; exact (List.getElem?_eq_some_iff.1 hj).1
 have : (((List.range n).map f).toArray).getD j undef = f j := by simp [Array.getD_eq_getD_getElem?, hlt]
 rw [this]; exact h j t hj
theorem repAr {w : World} {m : Mp} {R U : Nat → Prop} {f : Nat → Value} {n : Nat} {ps : List PV} (hn : ps.length = n) (h : ∀ j p, ps[j]? = some p → Rep w U U (f j) p) :
    RepT w m R U (.agg ((List.range n).map f).toArray) (.ar ps) := by
 refine .ar (by simp [hn]) (fun j t hj => ?_)
 have hlt : j < n := by rw [← hn]; exact (List.getElem?_eq_some_iff.1 hj).1
 have : (((List.range n).map f).toArray).getD j undef = f j := by simp [Array.getD_eq_getD_getElem?, hlt]
 rw [this]; exact h j t hj
theorem nrs_get (o : Nat) (π : List (Nat × Nat)) (i : Nat) : ∀ (l : List PV) (j q : Nat), (nrs o π i j l)[q]? = (l[q]?).map (nrv o π i (j + q))
 | [], j, q => by simp [nrs]
 | p :: l, j, 0 => by simp [nrs]
 | p :: l, j, q + 1 => by simp [nrs, nrs_get o π i l, Nat.add_assoc, Nat.add_comm 1 q]
theorem nrs_length (o : Nat) (π : List (Nat × Nat)) (i : Nat) : ∀ (l : List PV) (j : Nat), (nrs o π i j l).length = l.length
 | [], j => rfl
 | p :: l, j => by simp [nrs, nrs_length o π i l]
theorem nrv_cell (o : Nat) (π : List (Nat × Nat)) (i j : Nat) (p : PV) : (nrv o π i j p).isCell = true := by cases p <;> rfl
theorem nrs_cell {o : Nat} {π : List (Nat × Nat)} {i j : Nat} {l : List PV} {t : TV} (h : t ∈ nrs o π i j l) : t.isCell = true := by
 obtain ⟨q, hq⟩ := List.getElem?_of_mem h
 rw [nrs_get] at hq
 cases hl : l[q]? with
 | none => rw [hl] at hq; cases hq
 | some p => rw [hl] at hq; cases hq; exact nrv_cell _ _ _ _ _
theorem Addr_add0 (A : Option Addr) (k : Nat) : A = A.map (·.add (0 * k)) := by
 cases A with
 | none => rfl
 | some a => simp [Addr.add]
theorem nrv_rep {w : World} {m : Mp} {R U : Nat → Prop} {o i j : Nat} {π : List (Nat × Nat)} {g : List (Nat × Nat) → Option (Option Addr × Nat × Nat)} {v : Value} {p : PV} (hm : m o = some (.tree g)) (h : TCell g (π ++ [(i, j)]) v p) : RepT w m R U v (nrv o π i j p) := by
 cases p with
 | sc v' => obtain ⟨rfl, h2⟩ := h; exact .pv (.sc h2)
 | sl rs =>
  obtain ⟨A, A', c, k, h1, rfl, h2, h3⟩ := h
  refine .nr (off := 0) hm h1 (by omega) ?_
  rcases h2 with rfl | h2
  · exact .inl (Addr_add0 _ k)
  · exact .inr h2.symm
 | pt => exact h.elim
 | cl => exact h.elim
section
variable {w0 : World} {own0 S : Nat → Prop} {hp : Hp} {w : World} {m : Mp} {P : Program} {t : Nat} {ti : TI} {v : Value} {x y : TV}
theorem Rep.one {w : World} {R U : Nat → Prop} {v : Value} {p : PV} (h : Rep w R U v p) : v.oneCell' = true := by
 cases h with
 | sc h => cases v <;> first | rfl | (simp [plain] at h)
 | _ => rfl
theorem dp_cell [Dd] (M : Mem w0 own0 S hp w m) {s : Option Nat} {cl : Bool} {w1 : World} {B : Nat → Prop} {b off : Nat} {u : Value} {p : PV} (hS : DSrc w m (RR hp w m) s w1 B) (hd : dcl hp s = some cl) (hb : B b) (hc : w1.cell? ⟨b, off, none⟩ = some u) (hr : Rep w1 B B u p) :
    ∃ x, w.cell? ⟨b, off, none⟩ = some x ∧ RepT w m (RR hp w m) (UU w0 S hp w m) x (dvc cl s p) := by
 have key : ∀ cl', (cl = true → cl' = true) → w.cell? ⟨b, off, none⟩ = some u → RepT w m (RR hp w m) (UU w0 S hp w m) u (dvc cl s p) := by
  intro _ _ _
  cases p with
  | sc v =>
   cases hr with
   | sc h =>
    cases cl
    · exact .ud (Rep.one (w := w) (R := B) (U := B) (.sc h))
    · exact .pv (.sc h)
  | sl rows => exact .dv hS hr
  | pt cells => exact .ud hr.one
  | cl f caps => exact .ud hr.one
 cases s with
 | none =>
  obtain ⟨rfl, rfl⟩ := hS
  exact ⟨u, hc, key cl id hc⟩
 | some o =>
  have hS' : m o = some (.dat w1 B) := hS
  simp only [dcl] at hd
  split at hd
  · rename_i cl' ho
    cases hd
    have hob := M.obs o _ ho
    rw [hS'] at hob
    cases hob with
    | dat h =>
     obtain ⟨e, e1, cells, cells1, a1, a2, a3, a4, a5⟩ := h b hb
     have hc1 : cells1[off]? = some u := by rw [← a2.cell]; exact hc
     have hlt : off < cells1.size := (Array.getElem?_eq_some_iff.1 hc1).1
     have hu : cells1.getD off undef = u := by simp [Array.getD_eq_getD_getElem?, hc1]
     have hw : w.cell? ⟨b, off, none⟩ = some (cells.getD off undef) := by
      rw [a1.cell]
      simp [Array.getD_eq_getD_getElem?, show off < cells.size by omega]
     rcases a4 off with h4 | ⟨h4, h5⟩
     · rw [h4, hu] at hw
       exact ⟨u, hw, key cl id hw⟩
     · rw [hu] at h5
       cases cl with
       | true =>
        rw [a5 rfl, hu] at hw
        exact ⟨u, hw, key true id hw⟩
       | false =>
        refine ⟨_, hw, ?_⟩
        have hx : ∀ {v : Value}, plain v = true → v.oneCell' = true := fun h => Rep.one (w := w) (R := B) (U := B) (.sc h)
        cases p with
        | sl rows => cases hr <;> simp [plain] at h5
        | _ => exact .ud (hx h4)
  · cases hd
theorem load_ok [Dd] (M : Mem w0 own0 S hp w m) (ht : TyOk P t ti) (hx : RepT w m (RR hp w m) (UU w0 S hp w m) v x) (h : loadAt hp ti x = some y) :
    ∃ u, (Instr.loadAt t v).run P w = .ok u w ∧ RepT w m (RR hp w m) (UU w0 S hp w m) u y := by
 cases hx with
 | @bp o off b hm =>
  simp only [loadAt] at h
  split at h
  · rename_i cs ho
    have hob := M.obs o _ ho
    rw [hm] at hob
    cases hob with
    | @box _ e cells _ hi hc hs hr =>
     split at h
     · rename_i ha
       split at h
       · rename_i hle
         cases h
         refine ⟨_, ht.iload_agg ha (fun j => cells.getD (off + j) undef) (fun j hj => ?_), repAg (fun t ht' => hi t (List.mem_of_mem_drop (List.mem_of_mem_take ht'))) (by simp; omega) (fun j u hj => ?_)⟩
         · rw [hc.cell]
           have : off + j < cells.size := by omega
           simp [Array.getD_eq_getD_getElem?, this]
         · refine hr (off + j) u ?_
           rw [List.getElem?_take] at hj
           split at hj
           · simpa using hj
           · cases hj
       · cases h
     · rename_i ha
       have hlt : off < cells.size := by rw [hs]; exact (List.getElem?_eq_some_iff.1 h).1
       refine ⟨cells.getD off undef, ht.iload_one (by simpa using ha) (by rw [hc.cell]; simp [Array.getD_eq_getD_getElem?, hlt]), hr off y h⟩
  · rename_i ps ho
    have hob := M.obs o _ ho
    rw [hm] at hob
    cases hob with
    | @arr _ e cells _ hc hs hr =>
     split at h
     · rename_i ha
       split at h
       · rename_i hle
         cases h
         obtain ⟨rfl, hsz⟩ := hle
         refine ⟨_, ht.iload_agg ha (fun j => cells.getD j undef) (fun j hj => ?_), repAr hsz.symm (fun j u hj => hr j u hj)⟩
         rw [hc.cell]
         have : j < cells.size := by omega
         simp [Array.getD_eq_getD_getElem?, this]
       · cases h
     · rename_i ha
       split at h
       · rename_i p hp'
         cases h
         have hlt : off < cells.size := by rw [hs]; exact (List.getElem?_eq_some_iff.1 hp').1
         exact ⟨cells.getD off undef, ht.iload_one (by simpa using ha) (by rw [hc.cell]; simp [Array.getD_eq_getD_getElem?, hlt]), .pv (hr off p hp')⟩
       · cases h
  · cases h
 | @ep o i j c k ad hm =>
  simp only [loadAt] at h
  split at h
  · rename_i st e k' rows ho
    split at h
    · rename_i r hr
      have hob := M.obs o _ ho
      rw [hm] at hob
      cases hob with
      | row h1 h2 h3 h4 h5 =>
       obtain ⟨hs, hf, cells, hc, hsz, hrep⟩ := h5 ad rfl
       have hilt : i < rows.length := (List.getElem?_eq_some_iff.1 hr).1
       have hrl : r.length = k := h4 r (List.mem_of_getElem? hr)
       have hik : (i + 1) * k ≤ c * k := Nat.mul_le_mul_right k (by omega)
       rw [Nat.add_mul, Nat.one_mul] at hik
       split at h
       · rename_i ha
         split at h
         · rename_i hle
           cases h
           refine ⟨_, ht.iload_agg ha (fun q => cells.getD (ad.off + (i * k + (j + q))) undef) (fun q hq => ?_), repAg (fun t ht' => by obtain ⟨p, _, rfl⟩ := List.mem_map.1 ht'; rfl) (by simp; omega) (fun q u hq => ?_)⟩
           · rw [hc.cell]
             have : ad.off + (i * k + (j + q)) < cells.size := by omega
             simp [Array.getD_eq_getD_getElem?, this, Nat.add_assoc]
           · rw [List.getElem?_map, List.getElem?_take] at hq
             split at hq
             · simp at hq
               obtain ⟨p, hp', rfl⟩ := hq
               exact .pv (hrep i r (j + q) p hr hp')
             · simp at hq
         · cases h
       · rename_i ha
         split at h
         · rename_i p hp'
           cases h
           have hjlt : j < r.length := (List.getElem?_eq_some_iff.1 hp').1
           refine ⟨cells.getD (ad.off + (i * k + j)) undef, ht.iload_one (by simpa using ha) (by rw [hc.cell]; simp [Array.getD_eq_getD_getElem?, show ad.off + (i * k + j) < cells.size by omega]), .pv (hrep i r j p hr hp')⟩
         · cases h
    · cases h
  · cases h
 | @rp ad cells u hs hR hc hr =>
  simp only [loadAt] at h
  obtain ⟨bl, of_, sp⟩ := ad
  simp only at hs
  subst hs
  split at h
  · rename_i ha
    split at h
    · rename_i hle
      cases h
      refine ⟨_, ht.iload_agg ha u (fun q hq => hc q _ (List.getElem?_eq_getElem (by omega))), repAg (fun t ht' => by obtain ⟨p, _, rfl⟩ := List.mem_map.1 ht'; rfl) (by simp; omega) (fun q x hq => ?_)⟩
      rw [List.getElem?_map, List.getElem?_take] at hq
      split at hq
      · simp at hq
        obtain ⟨p, hp', rfl⟩ := hq
        exact .pv (hr q p hp')
      · simp at hq
    · cases h
  · rename_i ha
    split at h
    · rename_i p hp'
      cases h
      exact ⟨u 0, ht.iload_one (by simpa using ha) (by simpa using hc 0 p hp'), .pv (hr 0 p hp')⟩
    · cases h
 | @pv v b p hrep =>
  cases hrep with
  | @pt R U' ad cells u hs hR hc hr =>
   simp only [loadAt] at h
   obtain ⟨bl, of_, sp⟩ := ad
   simp only at hs
   subst hs
   split at h
   · rename_i ha
     split at h
     · rename_i hle
       cases h
       refine ⟨_, ht.iload_agg ha u (fun q hq => hc q _ (List.getElem?_eq_getElem (by omega))), repAg (fun t ht' => by obtain ⟨p, _, rfl⟩ := List.mem_map.1 ht'; exact mkpv_cell _ _) (by simp; omega) (fun q x hq => ?_)⟩
       rw [List.getElem?_map, List.getElem?_take] at hq
       split at hq
       · simp at hq
         obtain ⟨p, hp', rfl⟩ := hq
         exact .mk (hr q p hp')
       · simp at hq
     · cases h
   · rename_i ha
     split at h
     · rename_i p hp'
       cases h
       exact ⟨u 0, ht.iload_one (by simpa using ha) (by simpa using hc 0 p hp'), .mk (hr 0 p hp')⟩
     · cases h
  | _ => simp [loadAt] at h
 | @dp s ad cells w1 B u hS hs hb hc hr =>
  simp only [loadAt] at h
  obtain ⟨bl, of_, sp⟩ := ad
  simp only at hs
  subst hs
  split at h
  · rename_i cl hcl
    have hcell : ∀ q p, cells[q]? = some p → ∃ x, w.cell? ⟨bl, of_ + q, none⟩ = some x ∧ RepT w m (RR hp w m) (UU w0 S hp w m) x (dvc cl s p) := fun q p hq => dp_cell M hS hcl hb (hc q p hq) (hr q p hq)
    have hg : ∀ q p, cells[q]? = some p → w.cell? ⟨bl, of_ + q, none⟩ = some ((w.cell? ⟨bl, of_ + q, none⟩).getD undef) ∧ RepT w m (RR hp w m) (UU w0 S hp w m) ((w.cell? ⟨bl, of_ + q, none⟩).getD undef) (dvc cl s p) := fun q p hq => by
     obtain ⟨x, h1, h2⟩ := hcell q p hq
     rw [h1]
     exact ⟨rfl, h2⟩
    split at h
    · rename_i ha
      split at h
      · rename_i hle
        cases h
        refine ⟨_, ht.iload_agg ha (fun q => (w.cell? ⟨bl, of_ + q, none⟩).getD undef) (fun q hq => (hg q _ (List.getElem?_eq_getElem (by omega))).1), repAg (fun t ht' => by obtain ⟨p, _, rfl⟩ := List.mem_map.1 ht'; cases p <;> first | rfl | (cases cl <;> rfl)) (by simp; omega) (fun q x hq => ?_)⟩
        rw [List.getElem?_map, List.getElem?_take] at hq
        split at hq
        · simp at hq
          obtain ⟨p, hp', rfl⟩ := hq
          exact (hg q p hp').2
        · simp at hq
      · cases h
    · rename_i ha
      split at h
      · rename_i p hp'
        cases h
        exact ⟨_, ht.iload_one (by simpa using ha) (by simpa using (hg 0 p hp').1), (hg 0 p hp').2⟩
      · cases h
  · cases h
 | @np o i j c k π ad g hm hg =>
  simp only [loadAt] at h
  split at h
  · rename_i st rows ho
    split at h
    · rename_i rs htat
      split at h
      · rename_i r hr
        have hob := M.obs o _ ho
        rw [hm] at hob
        cases hob with
        | tree _ h2 h3 h4 =>
         obtain ⟨A, c', k', hg', hp'⟩ := h2 π rs htat
         rw [hg] at hg'
         cases hg'
         obtain ⟨hs, e, cells, ⟨hc, _⟩, hsz, hrep⟩ := hp'.mem ad rfl
         have hilt : i < rs.length := (List.getElem?_eq_some_iff.1 hr).1
         have hrl : r.length = k := hp'.len r (List.mem_of_getElem? hr)
         have hroom := hp'.room
         have hik : (i + 1) * k ≤ c * k := Nat.mul_le_mul_right k (by omega)
         rw [Nat.add_mul, Nat.one_mul] at hik
         split at h
         · rename_i ha
           split at h
           · rename_i hle
             cases h
             refine ⟨_, ht.iload_agg ha (fun q => cells.getD (ad.off + (i * k + (j + q))) undef) (fun q hq => ?_), repAg (fun t ht' => nrs_cell ht') (by simp [nrs_length]; omega) (fun q u hq => ?_)⟩
             · rw [hc.cell]
               have : ad.off + (i * k + (j + q)) < cells.size := by omega
               simp [Array.getD_eq_getD_getElem?, this, Nat.add_assoc]
             · rw [nrs_get, List.getElem?_take] at hq
               split at hq
               · simp at hq
                 obtain ⟨p, hp'', rfl⟩ := hq
                 exact nrv_rep hm (hrep i r (j + q) p hr hp'')
               · simp at hq
           · cases h
         · rename_i ha
           split at h
           · rename_i p hp''
             cases h
             have hjlt : j < r.length := (List.getElem?_eq_some_iff.1 hp'').1
             refine ⟨cells.getD (ad.off + (i * k + j)) undef, ht.iload_one (by simpa using ha) (by rw [hc.cell]; simp [Array.getD_eq_getD_getElem?, show ad.off + (i * k + j) < cells.size by omega]), nrv_rep hm (hrep i r j p hr hp'')⟩
           · cases h
      · cases h
    · cases h
  · cases h
 | _ => simp [loadAt] at h
end
end Go.Pm
namespace Go.Pm
open Go
def over (cells : Array Value) (off : Nat) : List Value → Array Value
 | [] => cells
 | v :: l => over (cells.setIfInBounds off v) (off + 1) l
theorem over_size (off : Nat) (vs : List Value) : ∀ cells : Array Value, (over cells off vs).size = cells.size := by
 induction vs generalizing off with
 | nil => intro cells; rfl
 | cons v l ih => intro cells; simp [over, ih]
theorem over_get (vs : List Value) : ∀ (off : Nat) (cells : Array Value), off + vs.length ≤ cells.size → ∀ j, (over cells off vs).getD j undef = if off ≤ j ∧ j < off + vs.length then vs.getD (j - off) undef else cells.getD j undef := by
 induction vs with
 | nil => intro off cells _ j; rw [over, if_neg (by first | omega | (simp; done) | (simp; omega))]
 | cons v l ih =>
  intro off cells h j
  simp only [List.length_cons] at h
  rw [over, ih (off + 1) _ (by simp; omega)]
  by_cases h1 : off + 1 ≤ j ∧ j < off + 1 + l.length
  · rw [if_pos h1, if_pos ⟨by omega, by simp; omega⟩]
    have : j - off = (j - (off + 1)) + 1 := by omega
    simp [this]
  · rw [if_neg h1]
    by_cases h2 : j = off
    · subst h2
      rw [if_pos ⟨by omega, by simp⟩]
      have : j < cells.size := by omega
      simp [Array.getD_eq_getD_getElem?, this]
    · rw [if_neg (by simp; omega)]
      simp [Array.getD_eq_getD_getElem?, Array.getElem?_setIfInBounds_ne (Ne.symm h2)]
theorem setCell_heap (w : World) (b off : Nat) (v : Value) (b' : Nat) (h : b' ≠ b) : (w.setCell ⟨b, off, none⟩ v).heap[b']? = w.heap[b']? := RowKit.Below.heap_setCell w ⟨b, off, none⟩ v b' h
theorem setCells_heap [Dd] (b : Nat) : ∀ (vs : List Value) (off : Nat) (w : World) (b' : Nat), b' ≠ b → (w.setCells b off vs).heap[b']? = w.heap[b']?
 | [], _, _, _, _ => rfl
 | v :: l, off, w, b', h => by rw [World.setCells, setCells_heap b l _ _ b' h]; exact setCell_heap w b off v b' h
theorem setCells_size (b : Nat) : ∀ (vs : List Value) (off : Nat) (w : World), (w.setCells b off vs).heap.size = w.heap.size
 | [], _, _ => rfl
 | v :: l, off, w => by rw [World.setCells, setCells_size b l]; simp [World.setCell]
theorem setCells_on [Dd] (b : Nat) : ∀ (vs : List Value) (off : Nat) (w : World), On w (w.setCells b off vs)
 | [], _, w => On.refl w
 | v :: l, off, w => by
  rw [World.setCells]
  have h1 : On w (w.setCell ⟨b, off, none⟩ v) := ⟨rfl, rfl, rfl, by simp [World.setCell], fun _ => Nat.le_refl _⟩
  exact h1.trans (setCells_on b l (off + 1) _)
theorem Cells.setCell {w : World} {b : Nat} {e : TypeId} {cells : Array Value} (h : Cells w b e cells) (off : Nat) (v : Value) : Cells (w.setCell ⟨b, off, none⟩ v) b e (cells.setIfInBounds off v) := by
 obtain ⟨fr, h1, h3, h2⟩ := h
 refine ⟨fr, ?_, h3, fun o ho => ?_⟩
 · simp only [World.setCell, Array.getElem?_modify, if_true, h1]
   rfl
 · rw [World.frozen?_setCell]; exact h2 o (by simpa using ho)
theorem Cells.setCells [Dd] {b : Nat} {e : TypeId} : ∀ (vs : List Value) (off : Nat) {w : World} {cells : Array Value}, Cells w b e cells → Cells (w.setCells b off vs) b e (over cells off vs)
 | [], _, _, _, h => h
 | v :: l, off, _, _, h => by rw [World.setCells, over]; exact Cells.setCells l (off + 1) (h.setCell off v)
theorem Cells.isSome [Dd] {w : World} {b : Nat} {e : TypeId} {cells : Array Value} (h : Cells w b e cells) {off : Nat} (ho : off < cells.size) : (w.cell? ⟨b, off, none⟩).isSome = true := by
 rw [h.cell]; simp [ho]
theorem Cells.frz {w : World} {b : Nat} {e : TypeId} {cells : Array Value} (h : Cells w b e cells) {off : Nat} (ho : off < cells.size) : w.frozen? ⟨b, off, none⟩ = false := by
 obtain ⟨_, _, _, h2⟩ := h
 exact h2 off ho
theorem freeze_heap (w : World) (b n q : Nat) : (w.freeze ⟨b, n, none⟩ 1).heap[q]? = if b = q then (w.heap[q]?).map (fun | .cells c elem (lo, hi) => .cells c elem (if lo == hi then (n, n + 1) else (min lo n, max hi (n + 1))) | o => o) else w.heap[q]? := by
 unfold World.freeze
 rw [if_neg (by decide)]
 show (w.heap.modify b _)[q]? = _
 rw [Array.getElem?_modify]
 rfl
theorem Cells.mark [Dd] {w : World} {b : Nat} {e : TypeId} {cells : Array Value} (h : Cells w b e cells) (hw : wideT e = false) : Cells (w.freeze ⟨b, cells.size, none⟩ 1) b e cells := by
 obtain ⟨⟨lo, hi⟩, h1, h3, h2⟩ := h
 have hh := freeze_heap w b cells.size b
 rw [if_pos rfl, h1] at hh
 simp only [Option.map_some] at hh
 refine ⟨_, hh, ⟨?_, fun h => absurd (h.symm.trans hw) (by decide)⟩, fun o ho => ?_⟩
 · have h3 := h3.1
   split <;> simp only <;> omega
 · have h4 := h2
   simp only [World.frozen?, h1] at h4
   simp only [World.frozen?, hh]
   have h3 := h3.1
   dsimp only at h3
   have h5 := h4 o ho
   simp only [Bool.and_eq_false_iff, decide_eq_false_iff_not] at h5
   by_cases hc : lo = hi
   · simp [hc]; omega
   · have h6 : cells.size ≤ lo := by
       rcases Nat.lt_or_ge lo cells.size with h7 | h7
       · have := h4 lo h7
         simp at this
         omega
       · exact h7
     simp [hc]
     omega
theorem mark_on [Dd] (w : World) (b n : Nat) : On w (w.freeze ⟨b, n, none⟩ 1) := by
 unfold World.freeze
 rw [if_neg (by decide)]
 exact ⟨rfl, rfl, rfl, by simp, fun _ => Nat.le_refl _⟩
theorem Cells.shape {w : World} {b : Nat} {e : TypeId} {cells : Array Value} (h : Cells w b e cells) : w.shape? b = some (e, cells.size) := by
 obtain ⟨fr, h1, _⟩ := h
 simp [World.shape?, h1]
theorem Rep.oneCell {w : World} {R U : Nat → Prop} {v : Value} {p : PV} (h : Rep w R U v p) : v.oneCell' = true := by
 cases h with
 | sc h => cases v <;> simp_all [plain, Value.oneCell']
 | _ => rfl
theorem RepT.oneCell [Dd] {w : World} {m : Mp} {R U : Nat → Prop} {v : Value} {t : TV} (h : RepT w m R U v t) (hc : t.isCell = true) : v.oneCell' = true := by
 cases h with
 | pv h => exact h.oneCell
 | dv _ h => exact h.oneCell
 | ud h => exact h
 | ag | ar | tu => simp [TV.isCell] at hc
 | _ => rfl
theorem oneCell_cells {v : Value} (h : v.oneCell' = true) : v.cells = #[v] := by cases v <;> first | rfl | simp [Value.oneCell'] at h
theorem cells_ok [Dd] {w : World} {m : Mp} {R U : Nat → Prop} {v : Value} {t : TV} {cs : List TV} (h : RepT w m R U v t) (hc : t.cells = some cs) :
    v.cells.size = cs.length ∧ (∀ j x, cs[j]? = some x → RepT w m R U (v.cells.getD j undef) x) ∧ (∀ x ∈ cs, x.isCell = true) := by
 have one : ∀ {t : TV}, RepT w m R U v t → t.isCell = true → v.cells.size = [t].length ∧ (∀ j x, [t][j]? = some x → RepT w m R U (v.cells.getD j undef) x) ∧ (∀ x ∈ [t], x.isCell = true) := by
  intro t ht hi
  rw [oneCell_cells (ht.oneCell hi)]
  refine ⟨rfl, fun j x hj => ?_, fun x hx => ?_⟩
  · cases j with
    | zero => simp at hj; subst hj; simpa using ht
    | succ j => simp at hj
  · simp at hx; rw [hx]; exact hi
 cases t with
 | ag l => cases hc; cases h with | ag hi hs hr => exact ⟨hs, hr, hi⟩
 | ar | tu | ud => simp [TV.cells] at hc
 | _ => cases hc; exact one h rfl
theorem cells_one [Dd] {w : World} {m : Mp} {R U : Nat → Prop} {v : Value} {t : TV} {cs : List TV} (h : RepT w m R U v t) (hc : t.cells = some cs) : ∀ x ∈ v.cells.toList, x.oneCell' = true := by
 obtain ⟨h1, h2, h3⟩ := cells_ok h hc
 intro x hx
 obtain ⟨j, hj, rfl⟩ := List.getElem_of_mem hx
 have hj' : j < cs.length := by rw [← h1]; simpa using hj
 have := h2 j cs[j] (List.getElem?_eq_getElem hj')
 have e : v.cells.getD j undef = v.cells.toList[j] := by
  have : j < v.cells.size := by simpa using hj
  simp [Array.getD_eq_getD_getElem?, this]
 rw [e] at this
 exact this.oneCell (h3 _ (List.getElem_mem hj'))
section
variable {w0 : World} {own0 S : Nat → Prop} {hp hp' : Hp} {w : World} {m : Mp}
theorem row_rep [Dd] (M : Mem w0 own0 S hp w m) {o off len e k : Nat} {st : RS} {rows : List (List PV)} {v : Value} (hl : look hp o = some (.row st e k rows))
    (hv : RepT w m (RR hp w m) (UU w0 S hp w m) v (.ref o off len)) (R : Nat → Prop) (hR : ∀ (ad : Addr) c k', m o = some (.row (some ad) c k') → R ad.block) (hle : off + len ≤ rows.length) :
    Rep w R (UU w0 S hp w m) v (.sl ((rows.drop off).take len)) := by
 have hob := M.obs o _ hl
 cases hv with
 | @ref _ _ _ c k' A A' hm hoc hA =>
  rw [hm] at hob
  cases hob with
  | row h1 h2 h3 h4 h5 =>
   by_cases h0 : len = 0
   · subst h0
     rw [List.take_zero]
     exact .nil
   · cases A with
     | none => have := h3 rfl; omega
     | some ad =>
      obtain ⟨hs, hf, cells, hc, hsz, hr⟩ := h5 ad rfl
      have e1 : A' = some (ad.add (off * k)) := by
       rcases hA with h | h
       · simpa using h
       · omega
      subst e1
      obtain ⟨bl, of_, sp⟩ := ad
      simp only at hs
      subst hs
      rw [Addr.add_lit]
      have hlen : ((rows.drop off).take len).length = len := by simp; omega
      have key : ∀ i r, ((rows.drop off).take len)[i]? = some r → rows[off + i]? = some r ∧ i < len := by
       intro i r hi
       rw [List.getElem?_take] at hi
       split at hi
       · rename_i hlt; exact ⟨by simpa using hi, hlt⟩
       · cases hi
      have := Rep.sl (w := w) (R := R) (U := UU w0 S hp w m) (ad := ⟨bl, of_ + off * k, none⟩) (c := c - off) (k := k) (rows := (rows.drop off).take len)
       (fun i j => cells.getD (of_ + ((off + i) * k + j)) undef) rfl (hR ⟨bl, of_, none⟩ _ _ hm) (by rw [hlen]; omega)
       (fun i r hi => h4 r (List.mem_of_getElem? (key i r hi).1))
       (fun i r j p hi hj => by
        rw [hc.cell]
        obtain ⟨hi', hlt⟩ := key i r hi
        have hrl : r.length = k := h4 r (List.mem_of_getElem? hi')
        have hjl : j < k := by rw [← hrl]; exact (List.getElem?_eq_some_iff.1 hj).1
        have hil : off + i < rows.length := (List.getElem?_eq_some_iff.1 hi').1
        have hik : (off + i + 1) * k ≤ c * k := Nat.mul_le_mul_right k (by omega)
        rw [Nat.add_mul, Nat.one_mul] at hik
        have e2 : of_ + off * k + (i * k + j) = of_ + ((off + i) * k + j) := by rw [Nat.add_mul]; omega
        simp only [] at e2 ⊢
        rw [e2]
        simp only [] at hsz
        simp [Array.getD_eq_getD_getElem?, show of_ + ((off + i) * k + j) < cells.size by omega])
       (fun i r j p hi hj => hr (off + i) r j p (key i r hi).1 hj)
      rw [hlen] at this
      exact this
theorem keep_ok [Dd] (M : Mem w0 own0 S hp w m) {v : Value} {t : TV} {p : PV} (hv : RepT w m (RR hp w m) (UU w0 S hp w m) v t) (h : keep hp t = some (p, hp')) :
    Mem w0 own0 S hp' w m ∧ Goes hp w m hp' w m ∧ Rep w (UU w0 S hp' w m) (UU w0 S hp' w m) v p := by
 unfold keep at h
 split at h
 · cases h
   cases hv with
   | pv hr => exact ⟨M, Goes.refl M, hr⟩
 · cases h
   cases hv
   exact ⟨M, Goes.refl M, .nil⟩
 · rename_i o off len
   split at h
   · rename_i st e k rows hl
     split at h
     · split at h
       · rename_i h0
         subst h0
         cases h
         cases hv with
         | ref h1 h2 h3 => exact ⟨M, Goes.refl M, .nil⟩
       · cases h
     · rename_i hio
       unfold sub at h
       split at h
       · rename_i l hsub
         split at hsub
         · rename_i hle
           cases hsub
           cases h
           obtain ⟨M', g⟩ := M.freeze hl hio
           refine ⟨M', g, ?_⟩
           have hl' : look (put hp o (.row .fz e k rows)) o = some (.row .fz e k rows) := look_put_same _ _ _
           refine row_rep M' hl' (g.repT hv) _ (fun ad c k' hm => ?_) hle
           have hob := M'.obs o _ hl'
           rw [hm] at hob
           cases hob with
           | row h1 h2 h3 h4 h5 => exact (h5 ad rfl).2.1 rfl
         · cases hsub
       · cases h
   · cases h
 · rename_i o π off len
   split at h
   · rename_i rows hl
     split at h
     · rename_i hc
       obtain ⟨rfl, rfl, rfl⟩ := hc
       cases h
       cases hv with
       | @nr _ _ _ c k _ A A' g hm hg hoc hA =>
       have hob := M.obs o _ hl
       rw [hm] at hob
       cases hob with
       | tree k1 k2 k3 k4 =>
        have T : Tree w g rows := ⟨k2, k3, k4⟩
        obtain ⟨M', g'⟩ := M.kill hl
        refine ⟨M', g', ?_⟩
        have hrep := tree_rep (R := UU w0 S (put hp o .dead) w m) T (fun q hq => by
         have hbq : Blk (m o) (.tree .own rows) q := by rw [hm]; exact hq
         obtain ⟨π, ad, c', k', q1, q2⟩ := hq
         obtain ⟨rs, ht⟩ := T.dom π _ q1
         obtain ⟨A1, c1, k1', q3, q4⟩ := T.part π rs ht
         rw [q1] at q3
         cases q3
         obtain ⟨_, e, cells, ⟨q5, _⟩, _⟩ := q4.mem ad rfl
         refine ⟨⟨by rw [← q2]; exact q5.lt, fun ho => ?_⟩, .inr ⟨M.nio o _ q hl rfl hbq, e, cells, by rw [← q2]; exact q5⟩⟩
         obtain ⟨o', ob', p1, p2⟩ := ho
         rw [look_put] at p1
         split at p1
         · cases p1
           cases hmo : m o' with
           | none => rw [hmo] at p2; simp [Blk] at p2
           | some cm => rw [hmo] at p2; cases cm <;> simp [Blk] at p2
         · rename_i hne
           exact hne (M.sep o' o ob' _ q p1 hl p2 hbq)) _ [] rows A c k (Nat.le_refl _) rfl hg
        rcases hA with hA | hA
        · have : A' = A := by rw [hA]; exact (Addr_add0 A k).symm
          subst this
          simpa using hrep
        · have hr0 : rows = [] := List.eq_nil_of_length_eq_zero (by omega)
          subst hr0
          exact .nil
     · cases h
   · cases h
 · cases h
end
end Go.Pm
namespace Go.Pm
open Go
theorem plainC_get : ∀ {vs : List TV} {new : List PV}, plainC vs = some new → new.length = vs.length ∧ ∀ (j : Nat) (p : PV), new[j]? = some p → ∃ b v, p = .sc v ∧ vs[j]? = some (.pv b (.sc v)) := by
 intro vs
 induction vs with
 | nil => intro new h; simp [plainC] at h; subst h; exact ⟨rfl, fun j p h => by simp at h⟩
 | cons t l ih =>
  intro new h
  unfold plainC at h
  split at h
  · rename_i e; cases e
  · rename_i b v l' e
    cases e
    split at h
    · rename_i ps hps
      cases h
      obtain ⟨a, b'⟩ := ih hps
      refine ⟨by simp [a], fun j p hj => ?_⟩
      cases j with
      | zero => simp at hj; exact ⟨b, v, hj.symm, by simp⟩
      | succ j => simpa using b' j p (by simpa using hj)
    · cases h
  · cases h
section
variable {w0 : World} {own0 S : Nat → Prop} {w : World} {m : Mp}
theorem keeps_ok [Dd] {cs : List TV} : ∀ {hp hp' : Hp} {ps : List PV} {f : Nat → Value}, Mem w0 own0 S hp w m → (∀ j t, cs[j]? = some t → RepT w m (RR hp w m) (UU w0 S hp w m) (f j) t) → keeps hp cs = some (ps, hp') →
    Mem w0 own0 S hp' w m ∧ Goes hp w m hp' w m ∧ ps.length = cs.length ∧ ∀ j p, ps[j]? = some p → Rep w (UU w0 S hp' w m) (UU w0 S hp' w m) (f j) p := by
 induction cs with
 | nil => intro hp hp' ps f M _ h; cases h; exact ⟨M, Goes.refl M, rfl, fun j p hj => by simp at hj⟩
 | cons t l ih =>
  intro hp hp' ps f M hr h
  simp only [keeps] at h
  split at h
  · cases h
  · rename_i p hp1 hk
    split at h
    · cases h
    · rename_i ps' hp2 hks
      cases h
      obtain ⟨M1, g1, r1⟩ := keep_ok M (hr 0 t rfl) hk
      obtain ⟨M2, g2, e2, r2⟩ := ih (f := fun j => f (j + 1)) M1 (fun j x hj => g1.repT (hr (j + 1) x (by simpa using hj))) hks
      refine ⟨M2, g1.trans g2, by simp [e2], fun j q hj => ?_⟩
      cases j with
      | zero => simp at hj; subst hj; exact g2.rep r1
      | succ j => simp at hj; exact r2 j q hj
theorem splice_length {α : Type} (l : List α) (off : Nat) (new : List α) (h : off + new.length ≤ l.length) : (splice l off new).length = l.length := by
 simp [splice]; omega
theorem splice_get {α : Type} (l : List α) (off : Nat) (new : List α) (h : off + new.length ≤ l.length) (j : Nat) : (splice l off new)[j]? = if off ≤ j ∧ j < off + new.length then new[j - off]? else l[j]? := by
 unfold splice
 by_cases h1 : j < off
 · rw [if_neg (by omega), List.append_assoc, List.getElem?_append_left (by simp; omega), List.getElem?_take, if_pos h1]
 · by_cases h2 : j < off + new.length
   · rw [if_pos ⟨by omega, h2⟩, List.getElem?_append_left (by simp; omega), List.getElem?_append_right (by simp; omega)]
     congr 1
     simp
     omega
   · rw [if_neg (by omega), List.getElem?_append_right (by simp; omega), List.getElem?_drop]
     congr 1
     simp
     omega
theorem splice_mem {α : Type} {l : List α} {off : Nat} {new : List α} {x : α} (h : x ∈ splice l off new) : x ∈ l ∨ x ∈ new := by
 simp only [splice, List.mem_append] at h
 rcases h with (h | h) | h
 · exact .inl (List.mem_of_mem_take h)
 · exact .inr h
 · exact .inl (List.mem_of_mem_drop h)
variable {hp hp' : Hp} {P : Program} {t : Nat} {ti : TI}
theorem TyOk.istore [Dd] {e b off : Nat} {cells : Array Value} {u : Value} (ht : TyOk P t ti) (hs : u.cells.size = ti.size) (hc : Cells w b e cells) (hf : off + ti.size ≤ cells.size) (h1 : ∀ x ∈ u.cells.toList, x.oneCell' = true) :
    (Instr.storeAt t (.pointer (some ⟨b, off, none⟩)) u).run P w = .ok () (w.setCells b off u.cells.toList) := by
 have hst := run_storeCells_cells (P := P) b off u.cells.toList 0 w (fun j hj => hc.isSome (by simp at hj; omega)) (fun j hj => hc.frz (by simp at hj; omega)) h1
 simp only [Nat.add_zero] at hst
 simp only [Instr.storeAt, Instr.sureAddr, storeVar, Sem.run_bind, Sem.run_pure, Result.andThen_ok, ht.size w, hs, ne_eq, not_true_eq_false, if_false, hst]
theorem getD_list (a : Array Value) (j : Nat) : a.toList.getD j undef = a.getD j undef := by simp [Array.getD_eq_getD_getElem?, List.getD]
theorem store_ok [Dd] (M : Mem w0 own0 S hp w m) (ht : TyOk P t ti) {v u : Value} {x y : TV} (hx : RepT w m (RR hp w m) (UU w0 S hp w m) v x) (hy : RepT w m (RR hp w m) (UU w0 S hp w m) u y)
    (h : storeAt hp ti y x = some hp') : ∃ w', (Instr.storeAt t v u).run P w = .ok () w' ∧ Mem w0 own0 S hp' w' m ∧ Goes hp w m hp' w' m := by
 cases hx with
 | @bp o off b hm =>
  simp only [storeAt] at h
  split at h
  · rename_i cs ho
    split at h
    · rename_i vs hvs
      split at h
      · rename_i hle
        cases h
        have hob := M.obs o _ ho
        rw [hm] at hob
        cases hob with
        | @box _ e cells _ hi hc hs hr =>
         obtain ⟨k1, k2, k3⟩ := cells_ok hy hvs
         have hfit : off + u.cells.toList.length ≤ cells.size := by simp; omega
         have hbl : Blk (m o) (.box cs) b := by rw [hm]; rfl
         have hbl' : ∀ q, Blk (m o) (.box (splice cs off vs)) q → Blk (m o) (.box cs) q := fun q hq => by rw [hm] at hq ⊢; exact hq
         have hk : ∀ q, q < w.heap.size → ¬ Blk (m o) (.box cs) q → (w.setCells b off u.cells.toList).heap[q]? = w.heap[q]? := fun q _ hq => setCells_heap b _ _ _ q fun e => hq (by rw [e]; exact hbl)
         have g := Goes.put (ob' := .box (splice cs off vs)) M (setCells_on b u.cells.toList off w) ho hbl' hk
         refine ⟨_, ht.istore (by omega) hc (by omega) (cells_one hy hvs), M.put (setCells_on b _ off w) ho hbl' hk (fun _ h => by cases h) ?_, g⟩
         rw [hm]
         refine .box (fun z hz => ?_) (Cells.setCells _ off hc) (by rw [over_size, splice_length _ _ _ (by omega), hs]) (fun j z hj => ?_)
         · rcases splice_mem hz with hz | hz
           · exact hi z hz
           · exact k3 z hz
         · rw [splice_get _ _ _ (by omega)] at hj
           rw [over_get _ _ _ hfit]
           have e1 : u.cells.toList.length = vs.length := by simpa using k1
           rw [e1]
           split at hj
           · rename_i hin
             rw [if_pos hin, getD_list]
             exact g.repT (k2 _ _ hj)
           · rename_i hin
             rw [if_neg hin]
             exact g.repT (hr j z hj)
      · cases h
    · cases h
  · rename_i ps ho
    have hob := M.obs o _ ho
    rw [hm] at hob
    cases hob with
    | @arr _ e cells _ hc hs hr =>
     have done : ∀ (qs : List PV) (n : Nat), off + n ≤ ps.length → ti.size = n → u.cells.size = n → (∀ z ∈ u.cells.toList, z.oneCell' = true) → (∀ j, (splice ps off qs)[j]? = if off ≤ j ∧ j < off + n then qs[j - off]? else ps[j]?) →
         (splice ps off qs).length = ps.length → (∀ j p, qs[j]? = some p → Rep w (UU w0 S hp w m) (UU w0 S hp w m) (u.cells.getD j undef) p) →
         ∃ w', (Instr.storeAt t (.pointer (some ⟨b, off, none⟩)) u).run P w = .ok () w' ∧ Mem w0 own0 S (put hp o (.arr (splice ps off qs))) w' m ∧ Goes hp w m (put hp o (.arr (splice ps off qs))) w' m := by
      intro qs n hn h1 h2 h3 h4 h5 h6
      have hfit : off + u.cells.toList.length ≤ cells.size := by simp; omega
      have hbl : Blk (m o) (.arr ps) b := by rw [hm]; rfl
      have hbl' : ∀ q, Blk (m o) (.arr (splice ps off qs)) q → Blk (m o) (.arr ps) q := fun q hq => by rw [hm] at hq ⊢; exact hq
      have hk : ∀ q, q < w.heap.size → ¬ Blk (m o) (.arr ps) q → (w.setCells b off u.cells.toList).heap[q]? = w.heap[q]? := fun q _ hq => setCells_heap b _ _ _ q fun e => hq (by rw [e]; exact hbl)
      have g := Goes.put (ob' := .arr (splice ps off qs)) M (setCells_on b u.cells.toList off w) ho hbl' hk
      refine ⟨_, ht.istore (by omega) hc (by omega) h3, M.put (setCells_on b _ off w) ho hbl' hk (fun _ h => by cases h) ?_, g⟩
      rw [hm]
      refine .arr (Cells.setCells _ off hc) (by rw [over_size, h5, hs]) (fun j z hj => ?_)
      rw [h4] at hj
      rw [over_get _ _ _ hfit]
      have e1 : u.cells.toList.length = n := by simpa using h2
      rw [e1]
      split at hj
      · rename_i hin
        rw [if_pos hin, getD_list]
        exact g.rep (h6 _ _ hj)
      · rename_i hin
        rw [if_neg hin]
        exact g.rep (hr j z hj)
     cases y with
     | ar qs =>
      simp only [] at h
      split at h
      · rename_i hle
        cases h
        obtain ⟨rfl, hq, hz⟩ := hle
        have e0 : splice ps 0 qs = qs := by simp [splice, ← hq]
        cases hy with
        | @ar arr _ h1 h2 =>
         have := done qs ps.length (by omega) hz (by simp [Value.cells]; omega) (fun z hz' => by
          obtain ⟨j, hj, rfl⟩ := List.getElem_of_mem hz'
          simp [Value.cells] at hj
          have := h2 j qs[j] (List.getElem?_eq_getElem (by omega))
          have e : arr.getD j undef = arr.toList[j] := by simp [Array.getD_eq_getD_getElem?, hj]
          rw [e] at this
          exact this.oneCell) (fun j => by
           rw [e0]
           split
           · simp
           · rename_i hn
             have hn' : ps.length ≤ j := by omega
             rw [List.getElem?_eq_none (by omega), List.getElem?_eq_none (by omega)]) (by rw [e0, hq]) (fun j p hj => h2 j p hj)
         rw [e0] at this
         exact this
      · cases h
     | pv bb p =>
      cases bb with
      | true => simp at h
      | false =>
       simp only [] at h
       split at h
       · rename_i hle
         cases h
         cases hy with
         | pv hp' =>
          have hone := hp'.oneCell
          have hcs := oneCell_cells hone
          refine done [p] 1 (by omega) hle.2 (by rw [hcs]; rfl) (fun z hz => by rw [hcs] at hz; simp at hz; rw [hz]; exact hone) (fun j => splice_get ps off [p] (by simp; omega) j) (splice_length ps off [p] (by simp; omega)) (fun j q hj => ?_)
          cases j with
          | zero => simp at hj; subst hj; rw [hcs]; exact hp'
          | succ j => simp at hj
       · cases h
     | _ => simp at h
  · cases h
 | @ep o i j c k ad hm =>
  simp only [storeAt] at h
  split at h
  · rename_i vs hvs
    split at h
    · rename_i new hp1 hks
      obtain ⟨k1, k2, k3⟩ := cells_ok hy hvs
      obtain ⟨M1, g1, e1, r1⟩ := keeps_ok M k2 hks
      split at h
      · rename_i st e k' rows ho
        split at h
        · rename_i r hr
          split at h
          · rename_i hle
            cases h
            obtain ⟨hst, hnew, hj⟩ := hle
            have hob := M1.obs o _ ho
            rw [hm] at hob
            cases hob with
            | row h1 h2 h3 h4 h5 =>
             obtain ⟨hs, hf, cells, hc, hsz, hrep⟩ := h5 ad rfl
             obtain ⟨bl, of_, sp⟩ := ad
             simp only at hs
             subst hs
             have hilt : i < rows.length := (List.getElem?_eq_some_iff.1 hr).1
             have hrl : r.length = k := h4 r (List.mem_of_getElem? hr)
             have hik : (i + 1) * k ≤ c * k := Nat.mul_le_mul_right k (by omega)
             rw [Nat.add_mul, Nat.one_mul] at hik
             dsimp only at hsz hc hrep ⊢
             have hlen : u.cells.toList.length = ti.size := by simp; omega
             have hfit : of_ + (i * k + j) + u.cells.toList.length ≤ cells.size := by rw [hlen]; omega
             have hbl : Blk (m o) (.row st e k rows) bl := by rw [hm]; cases st <;> simp [Blk] at hst ⊢
             have hbl' : ∀ q, Blk (m o) (.row st e k (rows.set i (splice r j new))) q → Blk (m o) (.row st e k rows) q := fun q hq => by
              rw [hm] at hq ⊢; cases st <;> first | exact hq | (simp [Blk] at hq)
             have hk : ∀ q, q < w.heap.size → ¬ Blk (m o) (.row st e k rows) q → (w.setCells bl (of_ + (i * k + j)) u.cells.toList).heap[q]? = w.heap[q]? := fun q _ hq => setCells_heap bl _ _ _ q fun e => hq (by rw [e]; exact hbl)
             have g := Goes.put (ob' := .row st e k (rows.set i (splice r j new))) M1 (setCells_on bl u.cells.toList (of_ + (i * k + j)) w) ho hbl' hk
             refine ⟨_, ht.istore (by omega) hc (by omega) (cells_one hy hvs), M1.put (setCells_on bl _ _ w) ho hbl' hk (fun b' h hb' => ?_) ?_, g1.trans g⟩
             · exact M1.nio o _ b' ho (by cases st <;> first | rfl | cases h) (hbl' b' hb')
             · rw [hm]
               refine .row (by simpa using h1) h2 h3 (fun r' hr' => ?_) (fun ad' hA => ?_)
               · rcases List.mem_or_eq_of_mem_set hr' with h' | h'
                 · exact h4 r' h'
                 · rw [h', splice_length _ _ _ (by omega)]; exact hrl
               · cases hA
                 refine ⟨rfl, fun hz => absurd hz hst, _, Cells.setCells _ _ hc, by rw [over_size]; exact hsz, fun i' r' j' p' hi' hj' => ?_⟩
                 dsimp only
                 rw [over_get _ _ _ hfit, hlen]
                 rw [List.getElem?_set] at hi'
                 split at hi'
                 · rename_i e'
                   subst e'
                   first | rw [if_pos hilt] at hi' | skip
                   cases hi'
                   rw [splice_get _ _ _ (by omega)] at hj'
                   split at hj'
                   · rename_i hin
                     rw [if_pos (by omega), getD_list, show of_ + (i * k + j') - (of_ + (i * k + j)) = j' - j by omega]
                     exact g.rep (r1 _ _ hj')
                   · rename_i hin
                     rw [if_neg (by omega)]
                     exact g.rep (hrep i r j' p' hr hj')
                 · rename_i e'
                   have hrl' : r'.length = k := h4 r' (List.mem_of_getElem? hi')
                   have hjl' : j' < k := by rw [← hrl']; exact (List.getElem?_eq_some_iff.1 hj').1
                   have : ¬ (of_ + (i * k + j) ≤ of_ + (i' * k + j') ∧ of_ + (i' * k + j') < of_ + (i * k + j) + ti.size) := by
                    rcases Nat.lt_or_ge i i' with hlt | hge
                    · have h8 : (i + 1) * k ≤ i' * k := Nat.mul_le_mul_right k hlt
                      rw [Nat.add_mul, Nat.one_mul] at h8
                      omega
                    · have h8 : (i' + 1) * k ≤ i * k := Nat.mul_le_mul_right k (by omega)
                      rw [Nat.add_mul, Nat.one_mul] at h8
                      omega
                   rw [if_neg this]
                   exact g.rep (hrep i' r' j' p' hi' hj')
          · cases h
        · cases h
      · cases h
    · cases h
  · cases h
 | @np o i j c k π ad gg hm hg =>
  simp only [storeAt] at h
  split at h
  · rename_i vs hvs
    split at h
    · rename_i new hpl
      obtain ⟨k1, k2, k3⟩ := cells_ok hy hvs
      have r1 := plainC_get hpl
      split at h
      · rename_i st rows ho
        split at h
        · rename_i rs htat
          split at h
          · rename_i r hr
            split at h
            · rename_i hle
              cases h
              obtain ⟨hnew, hj, hsc⟩ := hle
              have hob := M.obs o _ ho
              have hob0 := hob
              rw [hm] at hob
              cases hob with
              | tree h1 h2 h3 h4 =>
               obtain ⟨A0, c0, k0, hg', hp'⟩ := h2 π rs htat
               rw [hg] at hg'
               cases hg'
               obtain ⟨hs, e, cells, ⟨hc, hwd⟩, hsz, hrep⟩ := hp'.mem ad rfl
               obtain ⟨bl, of_, sp⟩ := ad
               simp only at hs
               subst hs
               have hilt : i < rs.length := (List.getElem?_eq_some_iff.1 hr).1
               have hrl : r.length = k := hp'.len r (List.mem_of_getElem? hr)
               have hroom := hp'.room
               have hik : (i + 1) * k ≤ c * k := Nat.mul_le_mul_right k (by omega)
               rw [Nat.add_mul, Nat.one_mul] at hik
               dsimp only at hsz hc hrep ⊢
               have hlen : u.cells.toList.length = ti.size := by simp; omega
               have hfit : of_ + (i * k + j) + u.cells.toList.length ≤ cells.size := by rw [hlen]; omega
               have hbl : Blk (m o) (.tree st rows) bl := by rw [hm]; exact ⟨π, _, _, _, hg, rfl⟩
               have hbl' : ∀ q, Blk (m o) (.tree st (tset rows π (rs.set i (splice r j new)))) q → Blk (m o) (.tree st rows) q := fun q hq => by
                rw [hm] at hq ⊢; exact hq
               have hk : ∀ q, q < w.heap.size → ¬ Blk (m o) (.tree st rows) q → (w.setCells bl (of_ + (i * k + j)) u.cells.toList).heap[q]? = w.heap[q]? := fun q _ hq => setCells_heap bl _ _ _ q fun e => hq (by rw [e]; exact hbl)
               have g := Goes.put (ob' := .tree st (tset rows π (rs.set i (splice r j new)))) M (setCells_on bl u.cells.toList (of_ + (i * k + j)) w) ho hbl' hk
               refine ⟨_, ht.istore (by omega) hc (by omega) (cells_one hy hvs), M.put (setCells_on bl _ _ w) ho hbl' hk (fun b' h hb' => M.nio o _ b' ho (by cases st <;> first | rfl | cases h) (hbl' b' hb')) ?_, g⟩
               rw [hm]
               rw [hm] at hob0
               have hjr : j + new.length ≤ r.length := by omega
               have hcell : ∀ (i' : Nat) (r' : List PV) (j' : Nat) (p' : PV), (rs.set i (splice r j new))[i']? = some r' → r'[j']? = some p' → (i' = i ∧ j ≤ j' ∧ j' < j + new.length ∧ new[j' - j]? = some p') ∨ (¬ (i' = i ∧ j ≤ j' ∧ j' < j + new.length) ∧ ∃ r0, rs[i']? = some r0 ∧ r0[j']? = some p') := by
                intro i' r' j' p' hi' hj'
                rw [List.getElem?_set] at hi'
                split at hi'
                · rename_i e'
                  subst e'
                  first | rw [if_pos hilt] at hi' | skip
                  cases hi'
                  rw [splice_get _ _ _ hjr] at hj'
                  split at hj'
                  · rename_i hin; exact .inl ⟨rfl, hin.1, hin.2, hj'⟩
                  · rename_i hin; exact .inr ⟨fun e => hin e.2, r, hr, hj'⟩
                · rename_i e'; exact .inr ⟨fun e => e' e.1.symm, r', hi', hj'⟩
               refine tree_put hob0 htat hg (by simp) (fun π2 rs2 hne h' => ?_) (fun π2 rs2 hne h' => ?_) (fun b hb => setCells_heap bl _ _ _ b hb) ⟨by simpa using hroom, hp'.pos, hp'.nil, fun r' hr' => ?_, fun ad' hA => ?_⟩
               · cases π2 with
                 | nil => exact absurd rfl hne
                 | cons y π2 =>
                  obtain ⟨i', j'⟩ := y
                  obtain ⟨r', rs0, a1, a2, a3⟩ := tat_cons.1 h'
                  rcases hcell i' r' j' _ a1 a2 with ⟨_, _, _, b⟩ | ⟨_, r0, b1, b2⟩
                  · obtain ⟨_, _, e', _⟩ := r1.2 _ _ b; cases e'
                  · exact tat_cons.2 ⟨r0, rs0, b1, b2, a3⟩
               · cases π2 with
                 | nil => exact absurd rfl hne
                 | cons y π2 =>
                  obtain ⟨i', j'⟩ := y
                  obtain ⟨r', rs0, a1, a2, a3⟩ := tat_cons.1 h'
                  by_cases e' : i = i'
                  · subst e'
                    rw [hr] at a1
                    cases a1
                    have hn : ¬ (j ≤ j' ∧ j' < j + new.length) := fun hin => by
                     have hm' : (PV.sl rs0) ∈ (r.drop j).take ti.size := by
                      refine List.mem_of_getElem? (i := j' - j) ?_
                      rw [List.getElem?_take, if_pos (by omega), List.getElem?_drop, show j + (j' - j) = j' by omega]
                      exact a2
                     have := List.all_eq_true.1 hsc _ hm'
                     simp [PV.isSc] at this
                    exact ⟨rs2, tat_cons.2 ⟨_, rs0, List.getElem?_set_self hilt, by rw [splice_get _ _ _ hjr, if_neg hn]; exact a2, a3⟩⟩
                  · exact ⟨rs2, tat_cons.2 ⟨r', rs0, by rw [List.getElem?_set_ne e']; exact a1, a2, a3⟩⟩
               · rcases List.mem_or_eq_of_mem_set hr' with h' | h'
                 · exact hp'.len r' h'
                 · rw [h', splice_length _ _ _ hjr]; exact hrl
               · cases hA
                 refine ⟨rfl, e, _, ⟨Cells.setCells _ _ hc, hwd⟩, by rw [over_size]; exact hsz, fun i' r' j' p' hi' hj' => ?_⟩
                 dsimp only
                 rw [over_get _ _ _ hfit, hlen]
                 have hrl' : r'.length = k := by
                  rcases List.mem_or_eq_of_mem_set (List.mem_of_getElem? hi') with h' | h'
                  · exact hp'.len r' h'
                  · rw [h', splice_length _ _ _ hjr]; exact hrl
                 have hjl' : j' < k := by rw [← hrl']; exact (List.getElem?_eq_some_iff.1 hj').1
                 rcases hcell i' r' j' p' hi' hj' with ⟨rfl, b1, b2, b3⟩ | ⟨b1, r0, b2, b3⟩
                 · rw [if_pos (by omega), getD_list, show of_ + (i' * k + j') - (of_ + (i' * k + j)) = j' - j by omega]
                   obtain ⟨bb, vv, rfl, b4⟩ := r1.2 _ _ b3
                   have hq := k2 _ _ b4
                   generalize u.cells.getD (j' - j) undef = zz at hq ⊢
                   cases hq with
                   | pv hq => cases hq with | sc hq' => exact ⟨rfl, hq'⟩
                 · have : ¬ (of_ + (i * k + j) ≤ of_ + (i' * k + j') ∧ of_ + (i' * k + j') < of_ + (i * k + j) + ti.size) := by
                     rcases Nat.lt_trichotomy i i' with hlt | heq | hgt
                     · have h8 : (i + 1) * k ≤ i' * k := Nat.mul_le_mul_right k hlt
                       rw [Nat.add_mul, Nat.one_mul] at h8
                       omega
                     · subst heq
                       intro hh
                       exact b1 ⟨rfl, by omega, by omega⟩
                     · have h8 : (i' + 1) * k ≤ i * k := Nat.mul_le_mul_right k hgt
                       rw [Nat.add_mul, Nat.one_mul] at h8
                       omega
                   rw [if_neg this]
                   exact hrep i' r0 j' p' b2 b3
            · cases h
          · cases h
        · cases h
      · cases h
    · cases h
  · cases h
 | @dp s ad dcells w1 B du hS hs hb hdc hdr =>
  cases s with
  | none => simp [storeAt] at h
  | some o =>
  simp only [storeAt] at h
  split at h
  · rename_i vs hvs
    split at h
    · rename_i new hpl
      obtain ⟨k1, k2, k3⟩ := cells_ok hy hvs
      have r1 := plainC_get hpl
      split at h
      · rename_i ho
        split at h
        · rename_i hle
          cases h
          obtain ⟨hnew, h0, hj, hsc⟩ := hle
          have hm : m o = some (.dat w1 B) := hS
          have hob := M.obs o _ ho
          rw [hm] at hob
          cases hob with
          | dat hd =>
           obtain ⟨bl, of_, sp⟩ := ad
           simp only at hs
           subst hs
           dsimp only at hb hdc
           obtain ⟨e, e1, cells, cells1, hc, hc1, hsz, hlike, _⟩ := hd bl hb
           have hin1 : ∀ q, q < dcells.length → cells1[of_ + q]? = some (du q) := fun q hq => by rw [← hc1.cell]; exact hdc q _ (List.getElem?_eq_getElem hq)
           have hlt : of_ + (ti.size - 1) < cells1.size := (Array.getElem?_eq_some_iff.1 (hin1 (ti.size - 1) (by omega))).1
           have hlen : u.cells.toList.length = ti.size := by simp; omega
           have hfit : of_ + u.cells.toList.length ≤ cells.size := by rw [hlen]; omega
           have hbl' : ∀ q, Blk (m o) (.dat false) q → Blk (m o) (.dat false) q := fun q hq => hq
           have hbb : Blk (m o) (.dat false) bl := by rw [hm]; exact hb
           have hk : ∀ q, q < w.heap.size → ¬ Blk (m o) (.dat false) q → (w.setCells bl of_ u.cells.toList).heap[q]? = w.heap[q]? := fun q _ hq => setCells_heap bl _ _ _ q fun e => hq (by rw [e]; exact hbb)
           have g := Goes.put (ob' := .dat false) M (setCells_on bl u.cells.toList of_ w) ho hbl' hk
           refine ⟨_, ht.istore (by omega) hc (by omega) (cells_one hy hvs), M.put (setCells_on bl _ _ w) ho hbl' hk (fun b' h hb' => by cases h) ?_, g⟩
           rw [hm]
           refine .dat fun b hB => ?_
           by_cases hbe : b = bl
           · subst hbe
             refine ⟨e, e1, _, cells1, Cells.setCells _ _ hc, hc1, by rw [over_size]; exact hsz, fun i => ?_, fun hf => by cases hf⟩
             rw [over_get _ _ _ hfit, hlen]
             split
             · rename_i hin
               right
               obtain ⟨q, rfl⟩ : ∃ q, i = of_ + q := ⟨i - of_, by omega⟩
               have hq : q < ti.size := by omega
               rw [getD_list, show of_ + q - of_ = q by omega]
               obtain ⟨bb, vv, h7, b4⟩ := r1.2 q _ (List.getElem?_eq_getElem (by omega))
               refine ⟨?_, ?_⟩
               · have hq := k2 _ _ b4
                 generalize u.cells.getD q undef = zz at hq ⊢
                 cases hq with
                 | pv hq => cases hq with | sc hq' => exact hq'
               · have h8 := hin1 q (by omega)
                 have h9 : cells1.getD (of_ + q) undef = du q := by simp [Array.getD_eq_getD_getElem?, h8]
                 rw [h9]
                 have h10 : dcells[q]? = some (dcells[q]'(by omega)) := List.getElem?_eq_getElem (by omega)
                 have h11 : (dcells[q]'(by omega)) ∈ dcells.take ti.size := List.mem_of_getElem? (i := q) (by rw [List.getElem?_take, if_pos hq]; exact h10)
                 have h12 := List.all_eq_true.1 hsc _ h11
                 have h13 := hdr q _ h10
                 generalize dcells[q]'(by omega) = pp at h12 h13
                 clear h9 h8 h10 h11
                 generalize du q = dq at h13 ⊢
                 cases h13 with
                 | sc h => exact h
                 | _ => simp [PV.isSc] at h12
             · exact hlike i
           · obtain ⟨e', e1', cells', cells1', g1, g2, g3, g4, _⟩ := hd b hB
             exact ⟨e', e1', cells', cells1', g1.of_block (setCells_heap bl _ _ _ b hbe), g2, g3, g4, fun hf => by cases hf⟩
        · cases h
      · cases h
    · cases h
  · cases h
 | _ => simp [storeAt] at h
end
end Go.Pm
namespace Go.Pm
open Go
theorem Cells.alloc (w : World) (cells : Array Value) (e : TypeId) : Cells (w.alloc (.cells cells e)) w.heap.size e cells := by
 refine ⟨(0, 0), heap_alloc_new w _, ⟨Nat.le_refl _, fun _ => rfl⟩, fun off _ => ?_⟩
 simp only [World.frozen?, heap_alloc_new w (.cells cells e)]
 simp
theorem On.alloc [Dd] (w : World) (o : Obj) : On w (w.alloc o) := ⟨rfl, rfl, rfl, by simp, fun _ => Nat.le_refl _⟩
theorem alloc_size (w : World) (o : Obj) : (w.alloc o).heap.size = w.heap.size + 1 := by show (w.heap.push o).size = _; simp
theorem alloc_old (w : World) (o : Obj) (b : Nat) (h : b < w.heap.size) : (w.alloc o).heap[b]? = w.heap[b]? := by first | exact heap_alloc_old w o h | exact heap_alloc_old w o b h | exact heap_alloc_old _ _ h
section
variable {w0 : World} {own0 S : Nat → Prop} {w : World} {m : Mp} {hp hp' : Hp} {P : Program}
theorem box_ok [Dd] (M : Mem w0 own0 S hp w m) {v : Value} {y : TV} (e : TypeId) (hy : RepT w m (RR hp w m) (UU w0 S hp w m) v y) {ob : OB} {id : Nat} (hb : boxOf y = some ob) (h : add hp id ob = some hp') :
    Mem w0 own0 S hp' (w.alloc (.cells v.cells e)) (upd m id (.box w.heap.size)) ∧ Goes hp w m hp' (w.alloc (.cells v.cells e)) (upd m id (.box w.heap.size)) := by
 unfold add at h
 split at h
 rotate_left
 · cases h
 rename_i h16
 split at h
 · rename_i hid
   cases h
   have hk : ∀ b, b < w.heap.size → (w.alloc (.cells v.cells e)).heap[b]? = w.heap[b]? := fun b hb => alloc_old w _ b hb
   have hsz := alloc_size w (.cells v.cells e)
   unfold boxOf at hb
   split at hb
   · rename_i ps
     cases hb
     cases hy with
     | @ar arr _ h1 h2 =>
      have hbl : ∀ b, Blk (some (.box w.heap.size)) (.arr ps) b → w.heap.size ≤ b ∧ b < (w.alloc (.cells (Value.agg arr).cells e)).heap.size := fun b hb => by cases hb; omega
      have g := Goes.new M (On.alloc w _) hk h16 hid hbl
      exact ⟨M.new (On.alloc w _) hk h16 hid hbl (.arr (Cells.alloc w _ e) h1 (fun j p hj => g.rep (h2 j p hj))), g⟩
   · split at hb
     · rename_i cs hcs
       cases hb
       obtain ⟨k1, k2, k3⟩ := cells_ok hy hcs
       have hbl : ∀ b, Blk (some (.box w.heap.size)) (.box cs) b → w.heap.size ≤ b ∧ b < (w.alloc (.cells v.cells e)).heap.size := fun b hb => by cases hb; omega
       have g := Goes.new M (On.alloc w _) hk h16 hid hbl
       exact ⟨M.new (On.alloc w _) hk h16 hid hbl (.box k3 (Cells.alloc w _ e) k1 (fun j t hj => g.repT (k2 j t hj))), g⟩
     · cases hb
 · cases h
theorem row_ok [Dd] {w' : World} (M : Mem w0 own0 S hp w m) {e k c id : Nat} {st : RS} (hst : st ≠ .fz) {rows : List (List PV)} {cells : Array Value} (h16 : 16 ≤ id) (hid : look hp id = none) (on : On w w') (hk : ∀ b, b < w.heap.size → w'.heap[b]? = w.heap[b]?)
    (hc : Cells w' w.heap.size e cells) (hk0 : 0 < k) (hle : rows.length ≤ c) (hsz : c * k ≤ cells.size) (hr : ∀ r ∈ rows, r.length = k)
    (hrep : ∀ (i : Nat) (r : List PV) (j : Nat) (p : PV), rows[i]? = some r → r[j]? = some p → Rep w (UU w0 S hp w m) (UU w0 S hp w m) (cells.getD (i * k + j) undef) p) :
    Mem w0 own0 S (put hp id (.row st e k rows)) w' (upd m id (.row (some ⟨w.heap.size, 0, none⟩) c k)) ∧ Goes hp w m (put hp id (.row st e k rows)) w' (upd m id (.row (some ⟨w.heap.size, 0, none⟩) c k)) := by
 have hbl : ∀ b, Blk (some (.row (some ⟨w.heap.size, 0, none⟩) c k)) (.row st e k rows) b → w.heap.size ≤ b ∧ b < w'.heap.size := fun b hb => by
  have : b = w.heap.size := by cases st <;> simp [Blk] at hb hst <;> first | exact hb.symm | exact absurd rfl hst
  subst this
  exact ⟨Nat.le_refl _, hc.lt⟩
 have g := Goes.new (ob := .row st e k rows) M on hk h16 hid hbl
 refine ⟨M.new on hk h16 hid hbl (.row hle hk0 (fun h => by cases h) hr (fun ad hA => ?_)), g⟩
 cases hA
 refine ⟨rfl, (fun h => absurd h hst), cells, hc, (by simpa using hsz), fun i r j p hi hj => ?_⟩
 simp only [Nat.zero_add]
 exact g.rep (hrep i r j p hi hj)
theorem row_nil_ok [Dd] (M : Mem w0 own0 S hp w m) {e k id : Nat} {st : RS} (h16 : 16 ≤ id) (hid : look hp id = none) (hk0 : 0 < k) :
    Mem w0 own0 S (put hp id (.row st e k [])) w (upd m id (.row none 0 k)) ∧ Goes hp w m (put hp id (.row st e k [])) w (upd m id (.row none 0 k)) := by
 have hbl : ∀ b, Blk (some (.row none 0 k)) (.row st e k []) b → w.heap.size ≤ b ∧ b < w.heap.size := fun b hb => by
  cases st <;> simp [Blk] at hb
 have g := Goes.new (ob := .row st e k []) M (On.refl w) (fun _ _ => rfl) h16 hid hbl
 exact ⟨M.new (On.refl w) (fun _ _ => rfl) h16 hid hbl (.row (by simp) hk0 (fun _ => rfl) (fun r hr => by cases hr) (fun ad hA => by cases hA)), g⟩
theorem zeroCells_ok [Dd] : ∀ {cs : List TV} {z : List PV}, zeroCells cs = some z → z.length = cs.length ∧ ∀ (v : Nat → Value), (∀ j t, cs[j]? = some t → zCell (v j) t = true) → ∀ j p, z[j]? = some p → ∀ (w : World) (R U : Nat → Prop), Rep w R U (v j) p := by
 intro cs
 induction cs with
 | nil => intro z h; cases h; exact ⟨rfl, fun _ _ j p hj => by simp at hj⟩
 | cons t l ih =>
  intro z h
  unfold zeroCells at h
  split at h
  · rename_i heq; cases heq
  · rename_i t' l' heq
    cases heq
    split at h
    · rename_i ps hps
      cases h
      obtain ⟨h1, h2⟩ := ih hps
      refine ⟨by simp [h1], fun v hv j p hj w R U => ?_⟩
      cases j with
      | zero =>
       simp at hj
       subst hj
       have := hv 0 .nl rfl
       unfold zCell at this
       split at this
       · rename_i heq1 _; rw [heq1]; exact .nil
       · rename_i heq1; cases heq1
       · cases this
      | succ j => simp at hj; exact h2 (fun j => v (j + 1)) (fun j t hj => hv (j + 1) t (by simpa using hj)) j p hj w R U
    · cases h
  · rename_i p' l' heq
    cases heq
    split at h
    · rename_i ps hps
      cases h
      obtain ⟨h1, h2⟩ := ih hps
      refine ⟨by simp [h1], fun v hv j p hj w R U => ?_⟩
      cases j with
      | zero =>
       simp at hj
       subst hj
       have := hv 0 (.pv false p') rfl
       unfold zCell at this
       split at this
       · rename_i heq1; cases heq1
       · rename_i u heq1
         cases heq1
         simp at this
         rw [← vEq_eq this.2]
         exact .sc this.1
       · cases this
      | succ j => simp at hj; exact h2 (fun j => v (j + 1)) (fun j t hj => hv (j + 1) t (by simpa using hj)) j p hj w R U
    · cases h
  · cases h
theorem zeroRow_ok [Dd] {v : Value} {t : TV} {z : List PV} (hz : zOk v t = true) (h : zeroRow t = some z) : z.length = v.cells.size ∧ ∀ j p, z[j]? = some p → ∀ (w : World) (R U : Nat → Prop), Rep w R U (v.cells.getD j undef) p := by
 unfold zeroRow at h
 split at h
 · rename_i cs hcs
   obtain ⟨h1, h2⟩ := zeroCells_ok h
   have hall : v.cells.size = cs.length ∧ ∀ j t, cs[j]? = some t → zCell (v.cells.getD j undef) t = true := by
    unfold zOk at hz
    split at hz
    · cases hcs
      obtain ⟨k1, k2⟩ := zAll_get hz
      exact ⟨by simpa [Value.cells] using k1, fun j t hj => by have := k2 j t hj; simpa [Value.cells, Array.getD_eq_getD_getElem?] using this⟩
    · simp [TV.cells] at hcs
    · have hone : v.cells = #[v] := by
        have := zCell_rep hz default (fun _ => none) (fun _ => True) (fun _ => True)
        exact oneCell_cells (this.oneCell (zCell_isCell hz))
      have : cs = [t] := by
       have hi := zCell_isCell hz
       cases t <;> simp [TV.isCell] at hi <;> simp [TV.cells] at hcs <;> first | exact hcs.symm | skip
      subst this
      rw [hone]
      refine ⟨rfl, fun j x hj => ?_⟩
      cases j with
      | zero => simp at hj; subst hj; simpa using hz
      | succ j => simp at hj
   exact ⟨by omega, fun j p hj w R U => h2 _ hall.2 j p hj w R U⟩
 · cases h
end
end Go.Pm
namespace Go.Pm
open Go
section
variable {w0 : World} {own0 S : Nat → Prop} {w : World} {m : Mp} {P : Program}
theorem Inv.ev [Dd] {n : Nat} {s : St} {a : Act} (I : Inv w0 own0 S n s a w m) {x : Operand} {t : TV} (h : s.ev x = some t) : RepT w m (RR s.hp w m) (UU w0 S s.hp w m) (a.eval x) t := by
 cases x with
 | tmp i => exact I.tms i t h
 | const v =>
  simp only [St.ev, constTV] at h
  split at h
  · cases h; exact .nl
  · split at h
    · rename_i h0; cases h; exact .tu h0 (fun j t hj => by simp at hj)
    · cases h
  · split at h
    · rename_i hp; cases h; exact .pv (.sc hp)
    · cases h
 | func f => cases h; exact .fn rfl (fun j t hj => by simp at hj)
 | global g => cases h
theorem Inv.evs [Dd] {n : Nat} {s : St} {a : Act} (I : Inv w0 own0 S n s a w m) : ∀ {l : List Operand} {ts : List TV}, evs s l = some ts → ts.length = l.length ∧ ∀ j t, ts[j]? = some t → RepT w m (RR s.hp w m) (UU w0 S s.hp w m) ((l.map a.eval).getD j undef) t := by
 intro l
 induction l with
 | nil => intro ts h; cases h; exact ⟨rfl, fun j t hj => by simp at hj⟩
 | cons x l ih =>
  intro ts h
  simp only [Pm.evs] at h
  split at h
  · cases h
  · rename_i t ht
    split at h
    · cases h
    · rename_i ts' hts
      cases h
      obtain ⟨h1, h2⟩ := ih hts
      refine ⟨by simp [h1], fun j u hj => ?_⟩
      cases j with
      | zero => simp at hj; subst hj; simpa using I.ev ht
      | succ j => simp at hj; simpa using h2 j u hj
theorem run_make [Dd] {t e : Nat} {ti ei : TI} (ht : TyOk P t ti) (hk : ti.kind = .slice e) (he : TyOk P e ei) {n : Int} (h0 : 0 ≤ n) (hb : n.toNat * ei.bytes ≤ roomBytes) (hn : n ≤ 9223372036854775807) (hs : 0 < ei.size) (w : World) :
    ∃ z, (zeroValue e).run P w = .ok z w ∧ z.cells.size = ei.size ∧ zOk z ei.zero = true ∧ ∃ cells, (Instr.makeSlice t (.int .i64 n) (.int .i64 n)).run P w = .ok (.slice (some ⟨w.heap.size, 0, none⟩) n.toNat n.toNat) (w.alloc (.cells cells e)) ∧
     cells.size = n.toNat * ei.size ∧ ∀ i j, i < n.toNat → j < ei.size → cells.getD (i * ei.size + j) undef = z.cells.getD j undef := by
 obtain ⟨z, hz1, hz2, hz3⟩ := he.zero w
 obtain ⟨tie, hb1, hb2, hb3⟩ := he.bytes w
 refine ⟨z, hz1, hz2, hz3, (Array.range (n.toNat * ei.size)).map (fun i => (if n.toNat * ei.size = 0 then #[] else z.cells)[i % (if n.toNat * ei.size = 0 then #[] else z.cells).size]!), ?_, by simp, fun i j hi hj => ?_⟩
 · have hw : IntKind.i64.wrap n = n := IntWalk.i64_in n ⟨by omega, by omega⟩
   have hbb : ¬ ((tie.bytes : Int) * n > 2 ^ 48) := by
    rw [hb2]
    have : (ei.bytes : Int) * n = ((n.toNat * ei.bytes : Nat) : Int) := by
     rw [Int.natCast_mul, Int.toNat_of_nonneg h0, Int.mul_comm]
    rw [this]
    unfold roomBytes at hb
    omega
   have hsz := he.size w
   have hwn : ¬ n < 0 := by omega
   simp only [Instr.makeSlice, Sem.run_bind, ht.sl w hk, Result.andThen_ok, asInt, asIntOf, Sem.run_pure, hb1, hw, hwn, hbb, decide_false, Bool.or_self, Bool.false_or, Bool.or_false, Int.lt_irrefl, gt_iff_lt, Bool.false_eq_true, if_false, run_askRoom, hsz]
   by_cases hz : n.toNat * ei.size = 0
   · simp only [hz, if_true, Sem.run_pure, Result.andThen_ok, newRow, run_newObj, Sem.run_bind, World.alloc]
   · simp only [hz, if_false, hz1, Sem.run_pure, Result.andThen_ok, newRow, run_newObj, Sem.run_bind, World.alloc]
 · have hlt : i * ei.size + j < n.toNat * ei.size := by
     have : (i + 1) * ei.size ≤ n.toNat * ei.size := Nat.mul_le_mul_right _ hi
     rw [Nat.add_mul, Nat.one_mul] at this
     omega
   have hne : ¬ n.toNat * ei.size = 0 := by omega
   have hmod : (i * ei.size + j) % z.cells.size = j := by rw [hz2, Nat.mul_comm, Nat.mul_add_mod, Nat.mod_eq_of_lt hj]
   simp only [hne, if_false]
   simp [Array.getD_eq_getD_getElem?, hlt, hmod, show j < z.cells.size by omega]
end
end Go.Pm
namespace Go.Pm
open Go
theorem fold_over (vs : List Value) : ∀ (off k : Nat) (cells : Array Value), (vs.zipIdx k).foldl (fun cs (x : Value × Nat) => cs.setIfInBounds (off + x.2) x.1) cells = over cells (off + k) vs := by
 induction vs with
 | nil => intro off k cells; rfl
 | cons v l ih =>
  intro off k cells
  rw [List.zipIdx_cons, List.foldl_cons, ih off (k + 1)]
  rfl
theorem fill_step [Dd] (u : Value) (off : Nat) (cells : Array Value) : u.cells.zipIdx.foldl (fun cs (x : Value × Nat) => cs.setIfInBounds (off + x.2) x.1) cells = over cells off u.cells.toList := by
 have := fold_over u.cells.toList off 0 cells
 rw [Nat.add_zero] at this
 rw [← this, ← Array.foldl_toList]
 simp
section
variable {w0 : World} {own0 S : Nat → Prop} {w : World} {m : Mp} {P : Program}
def RowsIn (w : World) (U : Nat → Prop) (k : Nat) (rows : List (List PV)) (cells : Array Value) : Prop :=
 (∀ r ∈ rows, r.length = k) ∧ ∀ (i : Nat) (r : List PV) (j : Nat) (p : PV), rows[i]? = some r → r[j]? = some p → Rep w U U (cells.getD (i * k + j) undef) p
theorem RowsIn.goes [Dd] {hp hp' : Hp} {w' : World} {m' : Mp} {k : Nat} {rows : List (List PV)} {cells : Array Value} (h : RowsIn w (UU w0 S hp w m) k rows cells) (g : Goes hp w m hp' w' m') : RowsIn w' (UU w0 S hp' w' m') k rows cells :=
 ⟨h.1, fun i r j p hi hj => g.rep (h.2 i r j p hi hj)⟩
theorem rowsIn_set [Dd] {U : Nat → Prop} {k i : Nat} {rows : List (List PV)} {cells : Array Value} {new : List PV} {us : List Value} (h : RowsIn w U k rows cells) (hs : cells.size = rows.length * k) (hi : i < rows.length) (hn : new.length = k) (hu : us.length = k)
    (hr : ∀ j p, new[j]? = some p → Rep w U U (us.getD j undef) p) : RowsIn w U k (rows.set i new) (over cells (i * k) us) := by
 have hfit : i * k + us.length ≤ cells.size := by
  have : (i + 1) * k ≤ rows.length * k := Nat.mul_le_mul_right _ hi
  rw [Nat.add_mul, Nat.one_mul] at this
  omega
 refine ⟨fun r hr' => ?_, fun i' r' j' p' hi' hj' => ?_⟩
 · rcases List.mem_or_eq_of_mem_set hr' with h' | h'
   · exact h.1 r h'
   · rw [h']; exact hn
 · rw [over_get _ _ _ hfit, hu]
   rw [List.getElem?_set] at hi'
   split at hi'
   · rename_i e
     subst e
     first | rw [if_pos hi] at hi' | skip
     cases hi'
     have hjl : j' < k := by rw [← hn]; exact (List.getElem?_eq_some_iff.1 hj').1
     rw [if_pos (by omega), show i * k + j' - i * k = j' by omega]
     exact hr j' p' hj'
   · rename_i e
     have hrl' : r'.length = k := h.1 r' (List.mem_of_getElem? hi')
     have hjl' : j' < k := by rw [← hrl']; exact (List.getElem?_eq_some_iff.1 hj').1
     have : ¬ (i * k ≤ i' * k + j' ∧ i' * k + j' < i * k + k) := by
      rcases Nat.lt_or_ge i i' with hlt | hge
      · have h8 : (i + 1) * k ≤ i' * k := Nat.mul_le_mul_right k hlt
        rw [Nat.add_mul, Nat.one_mul] at h8
        omega
      · have h8 : (i' + 1) * k ≤ i * k := Nat.mul_le_mul_right k (by omega)
        rw [Nat.add_mul, Nat.one_mul] at h8
        omega
     rw [if_neg this]
     exact h.2 i' r' j' p' hi' hj'
theorem fill_ok [Dd] {C : Cfg} {n : Nat} {s : St} {a : Act} (I : Inv w0 own0 S n s a w m) {k : Nat} : ∀ {parts : List (Nat × Operand)} {hp hp' : Hp} {rows rows' : List (List PV)} {cells : Array Value}, Mem w0 own0 S hp w m → Goes s.hp w m hp w m →
    cells.size = rows.length * k → RowsIn w (UU w0 S hp w m) k rows cells → fillRows C s k hp rows parts = some (rows', hp') →
    ∃ cells', Instr.fill (fun i => some (i * k, k)) cells (parts.map fun (x : Nat × Operand) => (x.1, a.eval x.2)) = some cells' ∧ Mem w0 own0 S hp' w m ∧ Goes s.hp w m hp' w m ∧ rows'.length = rows.length ∧ cells'.size = rows.length * k ∧ RowsIn w (UU w0 S hp' w m) k rows' cells' := by
 intro parts
 induction parts with
 | nil => intro hp hp' rows rows' cells M g hs hr h; cases h; exact ⟨cells, rfl, M, g, rfl, hs, hr⟩
 | cons x l ih =>
  intro hp hp' rows rows' cells M g hs hr h
  obtain ⟨i, x⟩ := x
  simp only [fillRows] at h
  split at h
  · cases h
  · rename_i v hv
    split at h
    · cases h
    · rename_i vs hvs
      split at h
      · cases h
      · rename_i new hp1 hks
        split at h
        · rename_i hcond
          obtain ⟨hn, hi⟩ := hcond
          have hrv := g.repT (I.ev hv)
          obtain ⟨k1, k2, k3⟩ := cells_ok hrv hvs
          obtain ⟨M1, g1, e1, r1⟩ := keeps_ok M k2 hks
          have hu : (a.eval x).cells.toList.length = k := by simp; omega
          have hR := rowsIn_set (i := i) (hr.goes g1) hs hi hn hu (fun j p hj => by rw [getD_list]; exact r1 j p hj)
          have hik : (i + 1) * k ≤ rows.length * k := Nat.mul_le_mul_right _ hi
          rw [Nat.add_mul, Nat.one_mul] at hik
          obtain ⟨cells', f1, f2, f3, f4, f5, f6⟩ := ih (rows := rows.set i new) (cells := over cells (i * k) (a.eval x).cells.toList) M1 (g.trans g1) (by rw [over_size]; simpa using hs) hR h
          refine ⟨cells', ?_, f2, f3, by simpa using f4, by simpa using f5, f6⟩
          simp only [List.map_cons, Instr.fill]
          have c1 : (decide ((a.eval x).cells.size ≠ k) || decide (i * k + (a.eval x).cells.size > cells.size)) = false := by
           simp; omega
          simp only [c1, Bool.false_eq_true, if_false]
          rw [← f1]
          congr 1
          exact fill_step _ _ _
        · cases h
theorem run_build [Dd] {t e : Nat} {ti ei : TI} (ht : TyOk P t ti) (hk : ti.kind = .slice e) (he : TyOk P e ei) (len : Nat) (hb : len * ei.size ≤ 16777216) (w : World) :
    ∃ z, zOk z ei.zero = true ∧ z.cells.size = ei.size ∧ ∃ cells0 : Array Value, cells0.size = len * ei.size ∧ (∀ i j, i < len → j < ei.size → cells0.getD (i * ei.size + j) undef = z.cells.getD j undef) ∧
     ∀ parts cells, Instr.fill (fun i => some (i * ei.size, ei.size)) cells0 parts.toList = some cells → (Instr.buildSlice t len parts).run P w = .ok (.slice (some ⟨w.heap.size, 0, none⟩) len len) (w.alloc (.cells cells e)) := by
 obtain ⟨z, hz1, hz2, hz3⟩ := he.zero w
 refine ⟨z, hz3, hz2, (Array.range (len * ei.size)).map (fun i => (if len * ei.size = 0 then #[] else z.cells)[i % (if len * ei.size = 0 then #[] else z.cells).size]!), by simp, fun i j hi hj => ?_, fun parts cells hf => ?_⟩
 · have hlt : i * ei.size + j < len * ei.size := by
     have : (i + 1) * ei.size ≤ len * ei.size := Nat.mul_le_mul_right _ hi
     rw [Nat.add_mul, Nat.one_mul] at this
     omega
   have hne : ¬ len * ei.size = 0 := by omega
   have hmod : (i * ei.size + j) % z.cells.size = j := by rw [hz2, Nat.mul_comm, Nat.mul_add_mod, Nat.mod_eq_of_lt hj]
   simp only [hne, if_false]
   simp [Array.getD_eq_getD_getElem?, hlt, hmod, show j < z.cells.size by omega]
 · have hsz := he.size w
   have hle : ¬ len * ei.size > 2 ^ 24 := by omega
   by_cases hz : len * ei.size = 0
   · simp only [hz, if_true] at hf
     have h24 : ¬ (0 > 2 ^ 24) := by omega
     simp only [Instr.buildSlice, Sem.run_bind, ht.sl w hk, Result.andThen_ok, hsz, hz, h24, if_false, if_true, Sem.run_pure, hf, newRow, run_newObj, World.alloc]
   · simp only [hz, if_false] at hf
     simp only [Instr.buildSlice, Sem.run_bind, ht.sl w hk, Result.andThen_ok, hsz, hle, if_false, hz, hz1, Sem.run_pure, hf, newRow, run_newObj, World.alloc]
end
end Go.Pm
namespace Go.Pm
open Go Go.Lib
section
variable {w0 : World} {own0 S : Nat → Prop} {w : World} {m : Mp} {P : Program}
theorem slice_src [Dd] {R U : Nat → Prop} {v : Value} {rows : List (List PV)} {k : Nat} (h : Rep w R U v (.sl rows)) (hr : ∀ r ∈ rows, r.length = k) (hk : 0 < k) :
    ∃ arr : Array Value, (Builtin.lenOf v).run P w = .ok rows.length w ∧ (Builtin.firstCells k rows.length v).run P w = .ok arr w ∧ arr.size = rows.length * k ∧ RowsIn w U k rows arr ∧ ∀ x ∈ arr.toList, x.oneCell' = true := by
 cases h with
 | @nil _ _ A c =>
  refine ⟨#[], (by simp [Builtin.lenOf]), ?_, (by simp), ⟨(fun r hr => by cases hr), (fun i r j p hi => by simp at hi)⟩, (fun x hx => by simp at hx)⟩
  cases A <;> simp [Builtin.firstCells, loadCells, loadCellsFrom]
 | @sl _ _ ad c k' rows u hs hR hl hk' hc hrep =>
  obtain ⟨bl, of_, sp⟩ := ad
  simp only at hs
  subst hs
  have get : ∀ q, q < rows.length * k → ∃ r p, rows[q / k]? = some r ∧ r[q % k]? = some p ∧ k' = k ∧ q / k * k + q % k = q := by
   intro q hq
   have h1 : q / k < rows.length := Nat.div_lt_of_lt_mul (by rw [Nat.mul_comm]; exact hq)
   have h2 := List.getElem?_eq_getElem h1
   have h3 : rows[q / k].length = k := hr _ (List.getElem_mem h1)
   have h4 : q % k < rows[q / k].length := by rw [h3]; exact Nat.mod_lt _ hk
   refine ⟨_, _, h2, List.getElem?_eq_getElem h4, by rw [← hk' _ _ h2, h3], ?_⟩
   have := Nat.div_add_mod q k
   rw [Nat.mul_comm]; exact this
  have hload := run_loadCells (P := P) w ⟨bl, of_, none⟩ (rows.length * k) (fun q => u (q / k) (q % k)) (fun q hq => by
   obtain ⟨r, p, h1, h2, h3, h4⟩ := get q hq
   subst h3
   rw [Addr.add_lit]
   have := hc _ _ _ _ h1 h2
   rw [h4] at this
   exact this)
  refine ⟨_, by simp [Builtin.lenOf], by simp only [Builtin.firstCells]; exact hload, by simp, ⟨hr, fun i r j p hi hj => ?_⟩, fun x hx => ?_⟩
  · have hil : i < rows.length := (List.getElem?_eq_some_iff.1 hi).1
    have hrl : r.length = k := hr r (List.mem_of_getElem? hi)
    have hjl : j < k := by rw [← hrl]; exact (List.getElem?_eq_some_iff.1 hj).1
    have hlt : i * k + j < rows.length * k := by
     have : (i + 1) * k ≤ rows.length * k := Nat.mul_le_mul_right _ hil
     rw [Nat.add_mul, Nat.one_mul] at this
     omega
    have e1 : (i * k + j) / k = i := by rw [Nat.mul_comm, Nat.mul_add_div hk, Nat.div_eq_of_lt hjl, Nat.add_zero]
    have e2 : (i * k + j) % k = j := by rw [Nat.mul_comm, Nat.mul_add_mod, Nat.mod_eq_of_lt hjl]
    have : (((List.range (rows.length * k)).map fun q => u (q / k) (q % k)).toArray).getD (i * k + j) undef = u i j := by
     simp [Array.getD_eq_getD_getElem?, hlt, e1, e2]
    rw [this]
    exact hrep i r j p hi hj
  · simp only [List.mem_map, List.mem_range] at hx
    obtain ⟨q, hq, rfl⟩ := hx
    obtain ⟨r, p, h1, h2, _, _⟩ := get q hq
    exact (hrep _ _ _ _ h1 h2).oneCell
theorem str_src {U : Nat → Prop} (s : ByteArray) : (Builtin.lenOf (.string s)).run P w = .ok (s.data.toList.map fun (c : UInt8) => [PV.sc (.int .u8 c.toNat)]).length w ∧
    ∃ arr : Array Value, (∀ size, (Builtin.firstCells size (s.data.toList.map fun (c : UInt8) => [PV.sc (.int .u8 c.toNat)]).length (.string s)).run P w = .ok arr w) ∧ arr.size = (s.data.toList.map fun (c : UInt8) => [PV.sc (.int .u8 c.toNat)]).length * 1 ∧
     RowsIn w U 1 (s.data.toList.map fun (c : UInt8) => [PV.sc (.int .u8 c.toNat)]) arr ∧ ∀ x ∈ arr.toList, x.oneCell' = true := by
 have hl : (s.data.toList.map fun (c : UInt8) => [PV.sc (.int .u8 c.toNat)]).length = s.size := by simp only [List.length_map]; rfl
 rw [hl]
 refine ⟨by simp [Builtin.lenOf], (strCells s).toArray, fun size => run_firstCells_string w size s, by simp [strCells_length], ⟨fun r hr => ?_, fun i r j p hi hj => ?_⟩, fun x hx => strCells_oneCell s x (by simpa using hx)⟩
 · simp only [List.mem_map] at hr
   obtain ⟨c, _, rfl⟩ := hr
   rfl
 · rw [List.getElem?_map] at hi
   cases hc : s.data.toList[i]? with
   | none => rw [hc] at hi; cases hi
   | some c =>
    rw [hc] at hi
    cases hi
    cases j with
    | zero =>
     simp at hj
     subst hj
     have : (strCells s).toArray.getD (i * 1 + 0) undef = .int .u8 c.toNat := by
      have h2 : (strCells s)[i]? = some (.int .u8 c.toNat) := by rw [strCells, List.getElem?_map, hc]; rfl
      rw [Nat.mul_one, Nat.add_zero]
      simp only [Array.getD_eq_getD_getElem?, List.getElem?_toArray, h2]; rfl
     rw [this]
     exact .sc rfl
    | succ j => simp at hj
set_option maxHeartbeats 1000000 in
theorem run_append_new [Dd] {t t' e : Nat} {ti ei : TI} {d : TypeDesc} (ht : TyOk P t ti) (hk : ti.kind = .slice e) (hd1 : P.underlying t' = some d) (hd2 : (∃ e', d = .slice e') ∨ d = .string) (he : TyOk P e ei) {base : Option Addr} {sl cap n : Nat} {x : Value} {old new : Array Value} (ty : TypeId)
    (hn : (Builtin.lenOf x).run P w = .ok n w) (hgrow : cap < sl + n) (hb : (sl + n) * ei.bytes ≤ roomBytes) (hmax : sl + n ≤ 9223372036854775807)
    (hold : (Builtin.firstCells ei.size sl (.slice base sl cap)).run P w.drew = .ok old w.drew) (hnew : (Builtin.firstCells ei.size n x).run P w.drew = .ok new w.drew) (hos : old.size = sl * ei.size) (hns : new.size = n * ei.size) :
    ∃ c cells, (Builtin.append_ #[t, t'] ty #[.slice base sl cap, x]).run P w = .ok (.slice (some ⟨w.heap.size, 0, none⟩) (sl + n) c) (w.drew.alloc (.cells cells e)) ∧ sl + n ≤ c ∧ cells.size = c * ei.size ∧
     ∀ j, j < (sl + n) * ei.size → cells.getD j undef = (old ++ new).getD j undef := by
 obtain ⟨z, hz1, hz2, hz3⟩ := he.zero w.drew
 obtain ⟨tie, hb1, hb2, hb3⟩ := he.bytes w
 have hge := grownCap_ge w (sl + n) cap e
 refine ⟨grownCap w (sl + n) cap e, old ++ new ++ Builtin.zeroCells z.cells (grownCap w (sl + n) cap e - (sl + n)), ?_, hge, ?_, fun j hj => ?_⟩
 · have hfits := growslice_fits (bytes := ei.bytes) hgrow (by unfold roomBytes at hb; omega)
   have c1 : ¬ (sl + n ≤ cap) := by omega
   have c2 : ¬ (Builtin.nextslicecap (sl + n) cap * ei.bytes > 2 ^ 48) := by omega
   have hsz := he.size w
   obtain ⟨tie2, q1, q2, q3, zz, q4, q5, q6⟩ := he.info
   have hzz : zz = z := by
    have : (zeroValue e).run P w.drew = .ok zz w.drew := by simp [zeroValue, typeInfo, q1, q4]
    rw [hz1] at this
    cases this; rfl
   subst hzz
   obtain ⟨dd, hd3, hd4⟩ := ht.desc
   have hdd : dd = .slice e := by rw [hk] at hd4; cases dd <;> simp [dOk] at hd4; rw [hd4]
   subst hdd
   have h63' : ¬ (9223372036854775807 < ((sl : Int) + (n : Int))) := by omega
   have h48' : ¬ (281474976710656 < Builtin.nextslicecap (sl + n) cap * ei.bytes) := by omega
   rw [← q2] at hold hnew
   rcases hd2 with ⟨e', rfl⟩ | rfl
   all_goals simp [Builtin.append_, run_underlying hd3, run_underlying hd1, sizeOf, typeInfo, zeroValue, q1, q3, q4, hn, c1, h63', h48', Question.forced, hold, hnew, newRow, grownCap]
 · simp only [Array.size_append, size_zeroCells, hz2, hos, hns, ← Nat.add_mul]
   congr 1
   omega
 · have : j < (old ++ new).size := by simp only [Array.size_append, hos, hns, ← Nat.add_mul]; exact hj
   simp only [Array.getD_eq_getD_getElem?]
   rw [Array.getElem?_append_left this]
end
end Go.Pm
namespace Go.Pm
open Go Go.Lib
section
variable {w0 : World} {own0 S : Nat → Prop} {w : World} {m : Mp} {P : Program} {hp hp' : Hp}
set_option maxHeartbeats 1000000 in
theorem run_append_in {t t' e : Nat} {ti ei : TI} {d : TypeDesc} (ht : TyOk P t ti) (hk : ti.kind = .slice e) (hd1 : P.underlying t' = some d) (hd2 : (∃ e', d = .slice e') ∨ d = .string) (he : TyOk P e ei) {base : Option Addr} {sl cap n : Nat} {x : Value} {new : Array Value} (ty : TypeId)
    (hn : (Builtin.lenOf x).run P w = .ok n w) (hroom : sl + n ≤ cap) (hnew : (Builtin.firstCells ei.size n x).run P w = .ok new w) {w' : World}
    (hst : ∀ a, base = some a → (storeCells (a.add (sl * ei.size)) new.toList).run P w = .ok () w') (hno : base = none → w' = w) :
    (Builtin.append_ #[t, t'] ty #[.slice base sl cap, x]).run P w = .ok (.slice base (sl + n) cap) w' := by
 obtain ⟨tie2, q1, q2, q3, zz, q4, q5, q6⟩ := he.info
 obtain ⟨dd, hd3, hd4⟩ := ht.desc
 have hdd : dd = .slice e := by rw [hk] at hd4; cases dd <;> simp [dOk] at hd4; rw [hd4]
 subst hdd
 rw [← q2] at hnew hst
 cases base with
 | none =>
  have := hno rfl
  subst this
  rcases hd2 with ⟨e', rfl⟩ | rfl
  all_goals simp [Builtin.append_, run_underlying hd3, run_underlying hd1, sizeOf, typeInfo, q1, hn, hroom, hnew]
 | some a =>
  have hs := hst a rfl
  rcases hd2 with ⟨e', rfl⟩ | rfl
  all_goals simp [Builtin.append_, run_underlying hd3, run_underlying hd1, sizeOf, typeInfo, q1, hn, hroom, hnew, hs]
theorem RowsIn.append {U : Nat → Prop} {k : Nat} {a b : List (List PV)} {ca cb cells : Array Value} (ha : RowsIn w U k a ca) (hb : RowsIn w U k b cb) (hsa : ca.size = a.length * k)
    (hc : ∀ j, j < (a.length + b.length) * k → cells.getD j undef = (ca ++ cb).getD j undef) : RowsIn w U k (a ++ b) cells := by
 refine ⟨fun r hr => ?_, fun i r j p hi hj => ?_⟩
 · rcases List.mem_append.1 hr with h | h
   · exact ha.1 r h
   · exact hb.1 r h
 · have hrl : r.length = k := by
     rcases List.mem_append.1 (List.mem_of_getElem? hi) with h | h
     · exact ha.1 r h
     · exact hb.1 r h
   have hjl : j < k := by rw [← hrl]; exact (List.getElem?_eq_some_iff.1 hj).1
   have hil : i < a.length + b.length := by have := (List.getElem?_eq_some_iff.1 hi).1; simpa using this
   have hlt : i * k + j < (a.length + b.length) * k := by
    have : (i + 1) * k ≤ (a.length + b.length) * k := Nat.mul_le_mul_right _ hil
    rw [Nat.add_mul, Nat.one_mul] at this
    omega
   rw [hc _ hlt]
   by_cases h1 : i < a.length
   · rw [List.getElem?_append_left h1] at hi
     have : i * k + j < ca.size := by
      have h8 : (i + 1) * k ≤ a.length * k := Nat.mul_le_mul_right _ h1
      rw [Nat.add_mul, Nat.one_mul] at h8
      omega
     simp only [Array.getD_eq_getD_getElem?]
     rw [Array.getElem?_append_left this]
     have := ha.2 i r j p hi hj
     simpa [Array.getD_eq_getD_getElem?] using this
   · rw [List.getElem?_append_right (by omega)] at hi
     have h8 : a.length * k ≤ i * k := Nat.mul_le_mul_right _ (by omega)
     simp only [Array.getD_eq_getD_getElem?]
     rw [Array.getElem?_append_right (by omega)]
     have := hb.2 (i - a.length) r j p hi hj
     rw [Nat.sub_mul] at this
     rw [show i * k + j - ca.size = i * k - a.length * k + j by omega]
     simpa [Array.getD_eq_getD_getElem?] using this
theorem append_nil_ok [Dd] (M : Mem w0 own0 S hp w m) {t t' e : Nat} {ti ei : TI} {d : TypeDesc} (ht : TyOk P t ti) (hk : ti.kind = .slice e) (hd1 : P.underlying t' = some d) (hd2 : (∃ e', d = .slice e') ∨ d = .string) (he : TyOk P e ei) (ty : TypeId)
    {x : Value} {news : List (List PV)} {id : Nat} (h0 : 0 < ei.size) (hb : news.length * ei.bytes ≤ roomBytes) (hmax : news.length ≤ 9223372036854775807) (hadd : add hp id (.row .own e ei.size news) = some hp')
    (hsrc : ∀ w', On w w' → (∀ b, b < w.heap.size → w'.heap[b]? = w.heap[b]?) → ∃ arr : Array Value, (Builtin.lenOf x).run P w' = .ok news.length w' ∧ (Builtin.firstCells ei.size news.length x).run P w' = .ok arr w' ∧ arr.size = news.length * ei.size ∧ RowsIn w' (UU w0 S hp w' m) ei.size news arr ∧ ∀ y ∈ arr.toList, y.oneCell' = true) :
    ∃ v w' m', (Builtin.append_ #[t, t'] ty #[.slice none 0 0, x]).run P w = .ok v w' ∧ Mem w0 own0 S hp' w' m' ∧ Goes hp w m hp' w' m' ∧ RepT w' m' (RR hp' w' m') (UU w0 S hp' w' m') v (.ref id 0 news.length) := by
 unfold add at hadd
 split at hadd
 rotate_left
 · cases hadd
 rename_i h16
 split at hadd
 · rename_i hid
   cases hadd
   obtain ⟨arr, s1, s2, s3, s4, s5⟩ := hsrc w (On.refl w) (fun _ _ => rfl)
   by_cases hz : news.length = 0
   · have hnil : news = [] := List.eq_nil_of_length_eq_zero hz
     subst hnil
     obtain ⟨M', g⟩ := row_nil_ok (e := e) (st := .own) M h16 hid h0
     refine ⟨_, w, _, run_append_in ht hk hd1 hd2 he ty s1 (by simp) s2 (w' := w) (fun a h => by cases h) (fun _ => rfl), M', g, ?_⟩
     have := RepT.ref (w := w) (R := RR (put hp id (.row .own e ei.size [])) w (upd m id (.row none 0 ei.size))) (U := UU w0 S (put hp id (.row .own e ei.size [])) w (upd m id (.row none 0 ei.size)))
      (m := upd m id (.row none 0 ei.size)) (o := id) (off := 0) (len := 0) (c := 0) (k := ei.size) (A := none) (A' := none) (upd_same m id _) (by simp) (.inl rfl)
     simpa using this
   · have hdr : On w w.drew := ⟨rfl, rfl, rfl, Nat.le_refl _, fun _ => Nat.le_succ _⟩
     obtain ⟨arr', t1, t2, t3, t4, t5⟩ := hsrc w.drew hdr (fun _ _ => rfl)
     obtain ⟨c, cells, r1, r2, r3, r4⟩ := run_append_new (base := none) (sl := 0) (cap := 0) (n := news.length) (old := #[]) (new := arr') ht hk hd1 hd2 he ty s1 (by omega) (by simpa using hb) (by simpa using hmax)
      (by simp [Builtin.firstCells]) t2 (by simp) t3
     simp only [Nat.zero_add] at r1 r2 r4
     have hgw := Goes.world (w' := w.drew) M hdr (fun _ _ => rfl)
     have hM := M.world hdr (fun _ _ => rfl)
     have hfit : news.length * ei.size ≤ c * ei.size := Nat.mul_le_mul_right _ r2
     obtain ⟨M', g⟩ := row_ok (w' := w.drew.alloc (.cells cells e)) (c := c) (st := .own) hM (by simp) h16 hid (On.alloc _ _) (fun b hb => alloc_old _ _ b hb) (Cells.alloc w.drew cells e) h0 r2 (by omega) t4.1 (fun i r j p hi hj => by
      have hil : i < news.length := (List.getElem?_eq_some_iff.1 hi).1
      have hrl : r.length = ei.size := t4.1 r (List.mem_of_getElem? hi)
      have hjl : j < ei.size := by rw [← hrl]; exact (List.getElem?_eq_some_iff.1 hj).1
      have hlt : i * ei.size + j < news.length * ei.size := by
       have : (i + 1) * ei.size ≤ news.length * ei.size := Nat.mul_le_mul_right _ hil
       rw [Nat.add_mul, Nat.one_mul] at this
       omega
      rw [r4 _ hlt]
      simpa using t4.2 i r j p hi hj)
     refine ⟨_, _, _, r1, M', hgw.trans g, ?_⟩
     have := RepT.ref (w := w.drew.alloc (.cells cells e)) (R := RR (put hp id (.row .own e ei.size news)) (w.drew.alloc (.cells cells e)) (upd m id (.row (some ⟨w.drew.heap.size, 0, none⟩) c ei.size))) (U := UU w0 S (put hp id (.row .own e ei.size news)) (w.drew.alloc (.cells cells e)) (upd m id (.row (some ⟨w.drew.heap.size, 0, none⟩) c ei.size)))
      (m := upd m id (.row (some ⟨w.drew.heap.size, 0, none⟩) c ei.size)) (o := id) (off := 0) (len := news.length) (c := c) (k := ei.size) (A := some ⟨w.drew.heap.size, 0, none⟩) (A' := some ⟨w.drew.heap.size, 0, none⟩) (upd_same m id _) (by omega) (.inl (by simp [Addr.add]))
     simpa using this
 · cases hadd
theorem add_some {hp hp' : Hp} {id : Nat} {ob : OB} (h : add hp id ob = some hp') : 16 ≤ id ∧ look hp id = none ∧ hp' = put hp id ob := by
 unfold add at h
 split at h
 · rename_i h16
   split at h
   · rename_i hid; cases h; exact ⟨h16, hid, rfl⟩
   · cases h
 · cases h
theorem sub_some {rows l : List (List PV)} {off len : Nat} (h : sub rows off len = some l) : off + len ≤ rows.length ∧ l = (rows.drop off).take len ∧ l.length = len := by
 unfold sub at h
 split at h
 · rename_i hle; cases h; exact ⟨hle, rfl, by simp; omega⟩
 · cases h
theorem sub_get [Dd] {rows l : List (List PV)} {off len i : Nat} {r : List PV} (h : sub rows off len = some l) (hi : l[i]? = some r) : rows[off + i]? = some r ∧ i < len := by
 obtain ⟨_, rfl, _⟩ := sub_some h
 rw [List.getElem?_take] at hi
 split at hi
 · rename_i hlt; exact ⟨by simpa using hi, hlt⟩
 · cases hi
theorem Mem.move [Dd] (M : Mem w0 own0 S hp w m) {o id : Nat} {ob ob' : OB} {cm : CM} {w' : World} (on : On w w') (ho : look hp o = some ob) (h16 : 16 ≤ id) (hid : look (Pm.put hp o .dead) id = none) (hb : ∀ q, Blk (some cm) ob' q → Blk (m o) ob q)
    (hk : ∀ q, ¬ Blk (m o) ob q → w'.heap[q]? = w.heap[q]?) (hni : ∀ q, ob'.mine = true → Blk (some cm) ob' q → w0.heap.size ≤ q)
    (hob : Goes hp w m (Pm.put (Pm.put hp o .dead) id ob') w' (upd m id cm) → ObOk w' (upd m id cm) (RR (Pm.put (Pm.put hp o .dead) id ob') w' (upd m id cm)) (UU w0 S (Pm.put (Pm.put hp o .dead) id ob') w' (upd m id cm)) (some cm) ob') :
    Mem w0 own0 S (Pm.put (Pm.put hp o .dead) id ob') w' (upd m id cm) ∧ Goes hp w m (Pm.put (Pm.put hp o .dead) id ob') w' (upd m id cm) := by
 have hne : id ≠ o := fun e => by rw [e, look_put_same] at hid; cases hid
 have hid0 : look hp id = none := by rwa [look_put_other _ _ hne] at hid
 have hown : ∀ q, Blk (some cm) ob' q → Own m hp q := fun q h => ⟨o, ob, ho, hb q h⟩
 have cases_ : ∀ q x, look (Pm.put (Pm.put hp o .dead) id ob') q = some x → (q = id ∧ x = ob') ∨ (q ≠ id ∧ q = o ∧ x = .dead) ∨ (q ≠ id ∧ q ≠ o ∧ look hp q = some x) := by
  intro q x h
  rw [look_put, look_put] at h
  split at h
  · rename_i e; cases h; exact .inl ⟨e, rfl⟩
  · split at h
    · rename_i e1 e2; cases h; exact .inr (.inl ⟨e1, e2, rfl⟩)
    · rename_i e1 e2; exact .inr (.inr ⟨e1, e2, h⟩)
 have deadb : ∀ c q, ¬ Blk c .dead q := by intro c q h; cases c with
  | none => simp [Blk] at h
  | some c => cases c <;> simp [Blk] at h
 have g : Goes hp w m (Pm.put (Pm.put hp o .dead) id ob') w' (upd m id cm) := by
  refine ⟨on, fun q c h => ?_, fun q _ hn => hk q fun e => hn ⟨o, ob, ho, e⟩, fun q h => ?_, fun i hi hl => ?_⟩
  · have : q ≠ id := fun e => by rw [e, M.dom id hid0] at h; cases h
    rw [upd_other m cm this]; exact h
  · obtain ⟨q1, x, h1, h2⟩ := h
    rcases cases_ q1 x h1 with ⟨rfl, rfl⟩ | ⟨a1, a2, rfl⟩ | ⟨a1, a2, a3⟩
    · rw [upd_same] at h2
      exact ⟨.inl (hown q h2), Nat.lt_of_lt_of_le (M.old q (hown q h2)).1 on.size⟩
    · exact absurd h2 (deadb _ _)
    · rw [upd_other m cm a1] at h2
      have h3 : Own m hp q := ⟨q1, x, a3, h2⟩
      exact ⟨.inl h3, Nat.lt_of_lt_of_le (M.old q h3).1 on.size⟩
  · have : i ≠ o := fun e => by rw [e, ho] at hl; cases hl
    rw [look_put_other _ _ (by omega), look_put_other _ _ this]; exact hl
 refine ⟨M.goes g (fun q h => ?_) (fun q q' x x' c h1 h2 h3 h4 => ?_) (fun q x c h1 hmi h2 => ?_) (fun q x h => ?_), g⟩
 · rw [look_put, look_put] at h
   split at h
   · cases h
   · rename_i e1
     split at h
     · cases h
     · rw [upd_other m cm e1]; exact M.dom q h
 · rcases cases_ q x h1 with ⟨rfl, rfl⟩ | ⟨a1, a2, rfl⟩ | ⟨a1, a2, a3⟩
   · rw [upd_same] at h3
     have h3 := hb c h3
     rcases cases_ q' x' h2 with ⟨rfl, rfl⟩ | ⟨b1, b2, rfl⟩ | ⟨b1, b2, b3⟩
     · rfl
     · exact absurd h4 (deadb _ _)
     · rw [upd_other m cm b1] at h4
       exact absurd (M.sep q' o x' ob c b3 ho h4 h3) b2
   · exact absurd h3 (deadb _ _)
   · rw [upd_other m cm a1] at h3
     rcases cases_ q' x' h2 with ⟨rfl, rfl⟩ | ⟨b1, b2, rfl⟩ | ⟨b1, b2, b3⟩
     · rw [upd_same] at h4
       exact absurd (M.sep q o x ob c a3 ho h3 (hb c h4)) a2
     · exact absurd h4 (deadb _ _)
     · rw [upd_other m cm b1] at h4
       exact M.sep q q' x x' c a3 b3 h3 h4
 · rcases cases_ q _ h1 with ⟨rfl, rfl⟩ | ⟨a1, a2, rfl⟩ | ⟨a1, a2, a3⟩
   · rw [upd_same] at h2
     exact hni c hmi h2
   · cases hmi
   · rw [upd_other m cm a1] at h2
     exact M.nio q x c a3 hmi h2
 · rcases cases_ q x h with ⟨rfl, rfl⟩ | ⟨a1, a2, rfl⟩ | ⟨a1, a2, a3⟩
   · rw [upd_same]; exact .inr (hob g)
   · exact .inr .dead
   · refine .inl ⟨a3, upd_other m cm a1, fun c hc => hk c fun e => a2 ?_⟩
     exact M.sep q o x ob _ a3 ho hc e
set_option maxHeartbeats 1000000 in
theorem append_row_ok [Dd] (M : Mem w0 own0 S hp w m) {t t' e : Nat} {ti ei : TI} {d : TypeDesc} (ht : TyOk P t ti) (hk : ti.kind = .slice e) (hd1 : P.underlying t' = some d) (hd2 : (∃ e', d = .slice e') ∨ d = .string) (he : TyOk P e ei) (ty : TypeId)
    {x v : Value} {news rows old : List (List PV)} {id o off len : Nat} {st : RS} (hl : look hp o = some (.row st e ei.size rows)) (hst : st ≠ .fz) (hv : RepT w m (RR hp w m) (UU w0 S hp w m) v (.ref o off len)) (hsub : sub rows off len = some old)
    (h0 : 0 < ei.size) (hb : (len + news.length) * ei.bytes ≤ roomBytes) (hmax : len + news.length ≤ 9223372036854775807) (hadd : add (put hp o .dead) id (.row st e ei.size (old ++ news)) = some hp')
    (hsrc : ∀ w', On w w' → (∀ b, b < w.heap.size → w'.heap[b]? = w.heap[b]?) → ∃ arr : Array Value, (Builtin.lenOf x).run P w' = .ok news.length w' ∧ (Builtin.firstCells ei.size news.length x).run P w' = .ok arr w' ∧ arr.size = news.length * ei.size ∧ RowsIn w' (UU w0 S hp w' m) ei.size news arr ∧ ∀ y ∈ arr.toList, y.oneCell' = true) :
    ∃ u w' m', (Builtin.append_ #[t, t'] ty #[v, x]).run P w = .ok u w' ∧ Mem w0 own0 S hp' w' m' ∧ Goes hp w m hp' w' m' ∧ RepT w' m' (RR hp' w' m') (UU w0 S hp' w' m') u (.ref id 0 (len + news.length)) := by
 obtain ⟨h16, hid, rfl⟩ := add_some hadd
 obtain ⟨hle, hold, hol⟩ := sub_some hsub
 obtain ⟨arr, s1, s2, s3, s4, s5⟩ := hsrc w (On.refl w) (fun _ _ => rfl)
 have hob := M.obs o _ hl
 cases hv with
 | @ref _ _ _ c k A A' hm hoc hA =>
  rw [hm] at hob
  cases hob with
  | row h1 h2 h3 h4 h5 =>
   have hlen4 : ∀ r ∈ old ++ news, r.length = ei.size := fun r hr => by
    rcases List.mem_append.1 hr with h | h
    · rw [hold] at h; exact h4 r (List.mem_of_mem_drop (List.mem_of_mem_take h))
    · exact s4.1 r h
   have hlapp : (old ++ news).length = len + news.length := by simp [hol]
   by_cases hroom : len + news.length ≤ c - off
   · by_cases hoffc : off = c
     · -- nothing is appended onto nothing
       have hn0 : news.length = 0 := by omega
       have hl0 : len = 0 := by omega
       have hnews : news = [] := List.eq_nil_of_length_eq_zero hn0
       subst hnews
       subst hl0
       have hold0 : old = [] := List.eq_nil_of_length_eq_zero hol
       subst hold0
       have harr : arr.toList = [] := List.eq_nil_of_length_eq_zero (by simpa using s3)
       obtain ⟨M1, g1⟩ := M.kill hl
       obtain ⟨M2, g2⟩ := row_nil_ok (e := e) (st := st) M1 h16 hid h0
       have := RepT.ref (w := w) (R := RR (put (put hp o .dead) id (.row st e ei.size [])) w (upd m id (.row none 0 ei.size))) (U := UU w0 S (put (put hp o .dead) id (.row st e ei.size [])) w (upd m id (.row none 0 ei.size)))
        (m := upd m id (.row none 0 ei.size)) (o := id) (off := 0) (len := 0) (c := 0) (k := ei.size) (A := none) (A' := A') (upd_same m id _) (by simp) (.inr rfl)
       have hrun := run_append_in (P := P) (w := w) (base := A') (sl := 0) (cap := c - off) (x := x) ht hk hd1 hd2 he ty s1 (by simp) s2 (w' := w) (fun a _ => by rw [harr]; rfl) (fun _ => rfl)
       refine ⟨.slice A' (0 + 0) (c - off), w, _, hrun, M2, g1.trans g2, ?_⟩
       subst hoffc
       simpa using this
     · cases A with
       | none => have := h3 rfl; omega
       | some ad =>
        obtain ⟨hs, hf, cells, hc, hsz, hrep⟩ := h5 ad rfl
        obtain ⟨bl, of_, sp⟩ := ad
        simp only at hs
        subst hs
        have hA1 : A' = some ⟨bl, of_ + off * ei.size, none⟩ := by
         rcases hA with h | h
         · simpa [Addr.add_lit] using h
         · exact absurd h hoffc
        subst hA1
        dsimp only at hsz hc hrep
        have hlenarr : arr.toList.length = news.length * ei.size := by simpa using s3
        have hcap : (off + (len + news.length)) * ei.size ≤ c * ei.size := Nat.mul_le_mul_right _ (by omega)
        have hmul : (off + (len + news.length)) * ei.size = off * ei.size + (len * ei.size + news.length * ei.size) := by rw [Nat.add_mul, Nat.add_mul]
        have hfit : of_ + off * ei.size + len * ei.size + arr.toList.length ≤ cells.size := by omega
        have hstore := run_storeCells_cells (P := P) bl (of_ + off * ei.size + len * ei.size) arr.toList 0 w (fun j hj => hc.isSome (by omega)) (fun j hj => hc.frz (by omega)) s5
        simp only [Nat.add_zero] at hstore
        have hrun := run_append_in (P := P) (w := w) (base := some ⟨bl, of_ + off * ei.size, none⟩) (sl := len) (cap := c - off) (x := x) ht hk hd1 hd2 he ty s1 hroom s2 (w' := w.setCells bl (of_ + off * ei.size + len * ei.size) arr.toList)
         (fun a ha => by cases ha; rw [Addr.add_lit]; exact hstore) (fun h => by cases h)
        have hbl : Blk (m o) (.row st e ei.size rows) bl := by rw [hm]; cases st <;> first | rfl | exact absurd rfl hst
        have hbl' : ∀ q, Blk (some (.row (some ⟨bl, of_ + off * ei.size, none⟩) (c - off) ei.size)) (.row st e ei.size (old ++ news)) q → q = bl := fun q h => by cases st <;> first | exact (Option.some.inj h).symm | exact absurd rfl hst
        obtain ⟨M', g⟩ := M.move (cm := .row (some ⟨bl, of_ + off * ei.size, none⟩) (c - off) ei.size) (setCells_on bl arr.toList (of_ + off * ei.size + len * ei.size) w) hl h16 hid (fun q hq => by rw [hbl' q hq]; exact hbl) (fun q hq => setCells_heap bl _ _ _ q fun e => hq (by rw [e]; exact hbl))
         (fun q h hq => by rw [hbl' q hq]; exact M.nio o _ bl hl (by cases st <;> first | rfl | cases h) hbl) (fun g => by
          refine .row (by omega) h0 (fun h => by cases h) hlen4 (fun ad' hA' => ?_)
          cases hA'
          refine ⟨rfl, fun h => absurd h hst, _, Cells.setCells _ _ hc, ?_, fun i r j p hi hj => ?_⟩
          · rw [over_size]
            have : (c - off) * ei.size = c * ei.size - off * ei.size := Nat.sub_mul _ _ _
            have : off * ei.size ≤ c * ei.size := Nat.mul_le_mul_right _ (by omega)
            dsimp only
            omega
          · dsimp only
            have hrl : r.length = ei.size := hlen4 r (List.mem_of_getElem? hi)
            have hjl : j < ei.size := by rw [← hrl]; exact (List.getElem?_eq_some_iff.1 hj).1
            have hil : i < len + news.length := by rw [← hlapp]; exact (List.getElem?_eq_some_iff.1 hi).1
            rw [over_get _ _ _ hfit, hlenarr]
            by_cases h1 : i < len
            · rw [List.getElem?_append_left (by omega)] at hi
              obtain ⟨q1, q2⟩ := sub_get hsub hi
              have h8 : (i + 1) * ei.size ≤ len * ei.size := Nat.mul_le_mul_right _ h1
              rw [Nat.add_mul, Nat.one_mul] at h8
              rw [if_neg (by omega)]
              have := hrep (off + i) r j p q1 hj
              rw [Nat.add_mul] at this
              rw [show of_ + off * ei.size + (i * ei.size + j) = of_ + (off * ei.size + i * ei.size + j) by omega]
              exact g.rep this
            · rw [List.getElem?_append_right (by omega), hol] at hi
              have h8 : len * ei.size ≤ i * ei.size := Nat.mul_le_mul_right _ (by omega)
              have h9 : (i + 1) * ei.size ≤ (len + news.length) * ei.size := Nat.mul_le_mul_right _ hil
              rw [Nat.add_mul, Nat.one_mul, Nat.add_mul] at h9
              rw [if_pos (by omega), getD_list]
              have := s4.2 (i - len) r j p hi hj
              rw [Nat.sub_mul] at this
              rw [show of_ + off * ei.size + (i * ei.size + j) - (of_ + off * ei.size + len * ei.size) = i * ei.size - len * ei.size + j by omega]
              exact g.rep this)
        refine ⟨_, _, _, hrun, M', g, ?_⟩
        have := RepT.ref (w := w.setCells bl (of_ + off * ei.size + len * ei.size) arr.toList) (R := RR (put (put hp o .dead) id (.row st e ei.size (old ++ news))) (w.setCells bl (of_ + off * ei.size + len * ei.size) arr.toList) (upd m id (.row (some ⟨bl, of_ + off * ei.size, none⟩) (c - off) ei.size)))
         (U := UU w0 S (put (put hp o .dead) id (.row st e ei.size (old ++ news))) (w.setCells bl (of_ + off * ei.size + len * ei.size) arr.toList) (upd m id (.row (some ⟨bl, of_ + off * ei.size, none⟩) (c - off) ei.size)))
         (m := upd m id (.row (some ⟨bl, of_ + off * ei.size, none⟩) (c - off) ei.size)) (o := id) (off := 0) (len := len + news.length) (c := c - off) (k := ei.size) (A := some ⟨bl, of_ + off * ei.size, none⟩) (A' := some ⟨bl, of_ + off * ei.size, none⟩) (upd_same m id _) (by omega) (.inl (by simp [Addr.add_lit]))
        simpa using this
   · -- a new array
     have hdr : On w w.drew := ⟨rfl, rfl, rfl, Nat.le_refl _, fun _ => Nat.le_succ _⟩
     obtain ⟨arr', t1, t2, t3, t4, t5⟩ := hsrc w.drew hdr (fun _ _ => rfl)
     have hrow := row_rep M hl (.ref hm hoc hA) (fun _ => True) (fun _ _ _ _ => trivial) hle
     rw [← hold] at hrow
     have hrow' : Rep w.drew (fun _ => True) (UU w0 S hp w m) (.slice A' len (c - off)) (.sl old) := hrow.mono (fun _ _ _ _ h => h) (fun _ _ _ _ h => h) (fun _ h => h) (fun _ h => h)
     obtain ⟨oarr, o1, o2, o3, o4, o5⟩ := slice_src (P := P) hrow' (fun r hr => hlen4 r (List.mem_append.2 (.inl hr))) h0
     rw [hol] at o2 o3
     obtain ⟨cap, ncells, r1, r2, r3, r4⟩ := run_append_new (base := A') (sl := len) (cap := c - off) (n := news.length) (old := oarr) (new := arr') ht hk hd1 hd2 he ty s1 (by omega) hb hmax o2 t2 o3 t3
     obtain ⟨M1, g1⟩ := M.kill hl
     have hgw := Goes.world (w' := w.drew) M1 hdr (fun _ _ => rfl)
     have hM := M1.world hdr (fun _ _ => rfl)
     have hin : RowsIn w.drew (UU w0 S (put hp o .dead) w.drew m) ei.size (old ++ news) ncells := by
      have g1' := g1.trans hgw
      have a1 : RowsIn w.drew (UU w0 S (put hp o .dead) w.drew m) ei.size old oarr := ⟨o4.1, fun i r j p hi hj => (o4.2 i r j p hi hj).weaken (fun b hb => g1'.uu b hb) (fun b hb => g1'.uu b hb)⟩
      have gm : Goes hp w.drew m (put hp o .dead) w.drew m := (Mem.kill (M.world hdr (fun _ _ => rfl)) hl).2
      have a2 : RowsIn w.drew (UU w0 S (put hp o .dead) w.drew m) ei.size news arr' := t4.goes gm
      exact a1.append a2 (by rw [o3, hol]) (fun j hj => r4 j (by rw [hol] at hj; exact hj))
     have hfit : (len + news.length) * ei.size ≤ cap * ei.size := Nat.mul_le_mul_right _ r2
     obtain ⟨M', g⟩ := row_ok (w' := w.drew.alloc (.cells ncells e)) (c := cap) (st := st) hM hst h16 hid (On.alloc _ _) (fun b hb => alloc_old _ _ b hb) (Cells.alloc w.drew ncells e) h0 (by omega) (by omega) hlen4 hin.2
     refine ⟨_, _, _, r1, M', (g1.trans hgw).trans g, ?_⟩
     have := RepT.ref (w := w.drew.alloc (.cells ncells e)) (R := RR (put (put hp o .dead) id (.row st e ei.size (old ++ news))) (w.drew.alloc (.cells ncells e)) (upd m id (.row (some ⟨w.drew.heap.size, 0, none⟩) cap ei.size))) (U := UU w0 S (put (put hp o .dead) id (.row st e ei.size (old ++ news))) (w.drew.alloc (.cells ncells e)) (upd m id (.row (some ⟨w.drew.heap.size, 0, none⟩) cap ei.size)))
      (m := upd m id (.row (some ⟨w.drew.heap.size, 0, none⟩) cap ei.size)) (o := id) (off := 0) (len := len + news.length) (c := cap) (k := ei.size) (A := some ⟨w.drew.heap.size, 0, none⟩) (A' := some ⟨w.drew.heap.size, 0, none⟩) (upd_same m id _) (by omega) (.inl (by simp [Addr.add]))
     simpa using this
theorem row_set_ok [Dd] (M : Mem w0 own0 S hp w m) {o e k c q bl of_ : Nat} {st : RS} {rows news : List (List PV)} {arr : Array Value} (hl : look hp o = some (.row st e k rows)) (hst : st ≠ .fz) (hm : m o = some (.row (some ⟨bl, of_, none⟩) c k)) (hfit : q + news.length ≤ rows.length)
    (ha : arr.size = news.length * k) (hin : RowsIn w (UU w0 S hp w m) k news arr) :
    Mem w0 own0 S (put hp o (.row st e k (splice rows q news))) (w.setCells bl (of_ + q * k) arr.toList) m ∧ Goes hp w m (put hp o (.row st e k (splice rows q news))) (w.setCells bl (of_ + q * k) arr.toList) m := by
 have hob := M.obs o _ hl
 rw [hm] at hob
 cases hob with
 | row h1 h2 h3 h4 h5 =>
  obtain ⟨_, hf, cells, hc, hsz, hrep⟩ := h5 _ rfl
  have on := setCells_on bl arr.toList (of_ + q * k) w
  have hb : ∀ rs, Blk (m o) (.row st e k rs) bl := fun rs => by rw [hm]; cases st <;> first | rfl | exact absurd rfl hst
  have hbl : ∀ b, Blk (m o) (.row st e k (splice rows q news)) b → Blk (m o) (.row st e k rows) b := fun b h => by
   rw [hm] at h ⊢; cases st <;> first | exact h | exact absurd rfl hst
  have hk : ∀ b, b < w.heap.size → ¬ Blk (m o) (.row st e k rows) b → (w.setCells bl (of_ + q * k) arr.toList).heap[b]? = w.heap[b]? := fun b _ hn => setCells_heap bl _ _ _ b fun e => hn (by rw [e]; exact hb _)
  have g := Goes.put M on hl hbl hk
  refine ⟨M.put on hl hbl hk (fun b h hb' => M.nio o _ b hl (by cases st <;> first | rfl | cases h) (hbl b hb')) ?_, g⟩
  have hlen4 : ∀ r ∈ splice rows q news, r.length = k := fun r hr => by
   rcases splice_mem hr with h | h
   · exact h4 r h
   · exact hin.1 r h
  have hsl := splice_length rows q news hfit
  rw [hm]
  refine .row (by omega) h2 (fun h => by cases h) hlen4 (fun ad' hA' => ?_)
  cases hA'
  have hlenarr : arr.toList.length = news.length * k := by simpa using ha
  have hcap : (q + news.length) * k ≤ c * k := Nat.mul_le_mul_right _ (by omega)
  rw [Nat.add_mul] at hcap
  have hfit' : of_ + q * k + arr.toList.length ≤ cells.size := by dsimp only at hsz; omega
  refine ⟨rfl, fun h => absurd h hst, _, Cells.setCells _ _ hc, by rw [over_size]; exact hsz, fun i r j p hi hj => ?_⟩
  dsimp only
  have hrl : r.length = k := hlen4 r (List.mem_of_getElem? hi)
  have hjl : j < k := by rw [← hrl]; exact (List.getElem?_eq_some_iff.1 hj).1
  rw [splice_get rows q news hfit] at hi
  rw [over_get _ _ _ hfit', hlenarr]
  have h8 : (i + 1) * k = i * k + k := by rw [Nat.add_mul, Nat.one_mul]
  by_cases h1 : q ≤ i ∧ i < q + news.length
  · rw [if_pos h1] at hi
    have h9 : q * k ≤ i * k := Nat.mul_le_mul_right _ h1.1
    have h10 : (i + 1) * k ≤ (q + news.length) * k := Nat.mul_le_mul_right _ h1.2
    rw [Nat.add_mul q] at h10
    rw [if_pos (by omega), getD_list]
    have := hin.2 (i - q) r j p hi hj
    rw [Nat.sub_mul] at this
    rw [show of_ + (i * k + j) - (of_ + q * k) = i * k - q * k + j by omega]
    exact g.rep this
  · rw [if_neg h1] at hi
    have : ¬ (of_ + q * k ≤ of_ + (i * k + j) ∧ of_ + (i * k + j) < of_ + q * k + news.length * k) := fun h9 => by
     by_cases h10 : i < q
     · have := Nat.mul_le_mul_right k (show i + 1 ≤ q from h10)
       omega
     · have := Nat.mul_le_mul_right k (show q + news.length ≤ i by omega)
       rw [Nat.add_mul] at this
       omega
    rw [if_neg this]
    exact g.rep (hrep i r j p hi hj)
theorem append_here_ok [Dd] (M : Mem w0 own0 S hp w m) {t t' e e' k : Nat} {ti ei : TI} {d : TypeDesc} (ht : TyOk P t ti) (hk : ti.kind = .slice e) (hd1 : P.underlying t' = some d) (hd2 : (∃ e', d = .slice e') ∨ d = .string) (he : TyOk P e ei) (ty : TypeId)
    {x v : Value} {news rows : List (List PV)} {o off len : Nat} {st : RS} (hl : look hp o = some (.row st e' k rows)) (hst : st ≠ .fz) (hke : k = ei.size) (hv : RepT w m (RR hp w m) (UU w0 S hp w m) v (.ref o off len)) (hlt : off + len < rows.length) (hfit : off + len + news.length ≤ rows.length)
    (hsrc : ∀ w', On w w' → (∀ b, b < w.heap.size → w'.heap[b]? = w.heap[b]?) → ∃ arr : Array Value, (Builtin.lenOf x).run P w' = .ok news.length w' ∧ (Builtin.firstCells ei.size news.length x).run P w' = .ok arr w' ∧ arr.size = news.length * ei.size ∧ RowsIn w' (UU w0 S hp w' m) ei.size news arr ∧ ∀ y ∈ arr.toList, y.oneCell' = true) :
    ∃ u w', (Builtin.append_ #[t, t'] ty #[v, x]).run P w = .ok u w' ∧ Mem w0 own0 S (put hp o (.row st e' k (splice rows (off + len) news))) w' m ∧ Goes hp w m (put hp o (.row st e' k (splice rows (off + len) news))) w' m ∧
     RepT w' m (RR (put hp o (.row st e' k (splice rows (off + len) news))) w' m) (UU w0 S (put hp o (.row st e' k (splice rows (off + len) news))) w' m) u (.ref o off (len + news.length)) := by
 subst hke
 obtain ⟨arr, s1, s2, s3, s4, s5⟩ := hsrc w (On.refl w) (fun _ _ => rfl)
 have hob := M.obs o _ hl
 cases hv with
 | @ref _ _ _ c k A A' hm hoc hA =>
  rw [hm] at hob
  cases hob with
  | row h1 h2 h3 h4 h5 =>
   cases A with
   | none => have := h3 rfl; omega
   | some ad =>
    obtain ⟨hs, hf, cells, hc, hsz, hrep⟩ := h5 ad rfl
    obtain ⟨bl, of_, sp⟩ := ad
    simp only at hs
    subst hs
    have hA1 : A' = some ⟨bl, of_ + off * ei.size, none⟩ := by
     rcases hA with h | h
     · simpa [Addr.add_lit] using h
     · omega
    obtain ⟨M', g⟩ := row_set_ok M hl hst hm hfit s3 s4
    have hmul : (off + len) * ei.size = off * ei.size + len * ei.size := Nat.add_mul _ _ _
    have hcap : (off + len + news.length) * ei.size ≤ c * ei.size := Nat.mul_le_mul_right _ (by omega)
    rw [Nat.add_mul (off + len)] at hcap
    have hlenarr : arr.toList.length = news.length * ei.size := by simpa using s3
    dsimp only at hsz
    have hstore := run_storeCells_cells (P := P) bl (of_ + (off + len) * ei.size) arr.toList 0 w (fun j hj => hc.isSome (by omega)) (fun j hj => hc.frz (by omega)) s5
    simp only [Nat.add_zero] at hstore
    refine ⟨.slice A' (len + news.length) (c - off), _, run_append_in (P := P) (w := w) (base := A') (sl := len) (cap := c - off) (x := x) ht hk hd1 hd2 he ty s1 (by omega) s2 (w' := w.setCells bl (of_ + (off + len) * ei.size) arr.toList)
     (fun a ha => by rw [hA1] at ha; cases ha; rw [Addr.add_lit, show of_ + off * ei.size + len * ei.size = of_ + (off + len) * ei.size by omega]; exact hstore) (fun h => by rw [hA1] at h; cases h), M', g, .ref hm (by omega) hA⟩
end
end Go.Pm
namespace Go.Pm
open Go Go.Lib
def TC (s : GMap) (v : Value) : PV → Prop
 | .sc v' => v = v' ∧ plain v' = true
 | .sl rs => ∃ A A' c k, s [] = some (A, c, k) ∧ v = .slice A' rs.length c ∧ (A' = A ∨ c = 0) ∧ rs.length ≤ c
 | _ => False
theorem TC.one {s : GMap} {v : Value} {p : PV} (h : TC s v p) : v.oneCell' = true := by
 cases p with
 | sc v' => obtain ⟨rfl, h⟩ := h; cases v <;> first | rfl | cases h
 | sl rs => obtain ⟨A, A', c, k, _, rfl, _⟩ := h; rfl
 | pt => exact h.elim
 | cl => exact h.elim
def gJoin (root : Option Addr × Nat × Nat) (sub : Nat → Nat → GMap) : GMap
 | [] => some root
 | (i, j) :: π => sub i j π
theorem tree_join {w : World} {rows : List (List PV)} {A : Option Addr} {c k : Nat} {sub : Nat → Nat → GMap} (h1 : rows.length ≤ c) (h2 : 0 < k) (h3 : A = none → c = 0) (h4 : ∀ r ∈ rows, r.length = k)
    (hmem : ∀ ad, A = some ad → ad.spot = none ∧ ∃ e cells, CellsT w ad.block k e cells ∧ ad.off + c * k ≤ cells.size ∧ ∀ (i : Nat) (r : List PV) (j : Nat) (p : PV), rows[i]? = some r → r[j]? = some p → TC (sub i j) (cells.getD (ad.off + (i * k + j)) undef) p)
    (hsub : ∀ (i : Nat) (r : List PV) (j : Nat) (rs : List (List PV)), rows[i]? = some r → r[j]? = some (.sl rs) → Tree w (sub i j) rs)
    (hdom : ∀ i j π x, sub i j π = some x → ∃ (r : List PV) (rs : List (List PV)), rows[i]? = some r ∧ r[j]? = some (.sl rs))
    (hd1 : ∀ i j q, TBlk (sub i j) q → ∀ ad, A = some ad → ad.block ≠ q) (hd2 : ∀ i j i' j' q, TBlk (sub i j) q → TBlk (sub i' j') q → (i, j) = (i', j')) : Tree w (gJoin (A, c, k) sub) rows := by
 have cell : ∀ (π : List (Nat × Nat)) (i j : Nat) (v : Value) (p : PV), TCell (sub i j) π v p → TCell (gJoin (A, c, k) sub) ((i, j) :: π) v p := fun π i j v p h => by
  cases p with
  | sc v' => exact h
  | sl rs => exact h
  | pt => exact h
  | cl => exact h
 refine ⟨fun π rs ht => ?_, fun π x hx => ?_, fun π π' ad ad' c1 c2 k1 k2 hg hg' hb => ?_⟩
 · cases π with
   | nil =>
    simp only [tat] at ht
    cases ht
    refine ⟨A, c, k, rfl, h1, h2, h3, h4, fun ad hA => ?_⟩
    obtain ⟨a1, e, cells, a2, a3, a4⟩ := hmem ad hA
    refine ⟨a1, e, cells, a2, a3, fun i r j p hi hj => ?_⟩
    have := a4 i r j p hi hj
    cases p with
    | sc v' => exact this
    | sl rs' =>
     obtain ⟨B, B', c', k', b1, b2, b3, b4⟩ := this
     exact ⟨B, B', c', k', b1, b2, b3, b4⟩
    | pt => exact this
    | cl => exact this
   | cons x π =>
    obtain ⟨i, j⟩ := x
    obtain ⟨r, rs0, a1, a2, a3⟩ := tat_cons.1 ht
    obtain ⟨B, c', k', b1, b2⟩ := (hsub i r j rs0 a1 a2).part π rs a3
    refine ⟨B, c', k', b1, b2.room, b2.pos, b2.nil, b2.len, fun ad hA => ?_⟩
    obtain ⟨d1, e, cells, d2, d3, d4⟩ := b2.mem ad hA
    exact ⟨d1, e, cells, d2, d3, fun i' r' j' p hi hj => cell _ _ _ _ _ (d4 i' r' j' p hi hj)⟩
 · cases π with
   | nil => exact ⟨rows, rfl⟩
   | cons y π =>
    obtain ⟨i, j⟩ := y
    obtain ⟨r, rs, a1, a2⟩ := hdom i j π x hx
    obtain ⟨rs', a3⟩ := (hsub i r j rs a1 a2).dom π x hx
    exact ⟨rs', tat_cons.2 ⟨r, rs, a1, a2, a3⟩⟩
 · cases π with
   | nil =>
    cases π' with
    | nil => rfl
    | cons y π' =>
     obtain ⟨i, j⟩ := y
     simp only [gJoin, Option.some.injEq, Prod.mk.injEq] at hg
     exact absurd hb (hd1 i j _ ⟨π', ad', c2, k2, hg', rfl⟩ ad hg.1)
   | cons x π =>
    obtain ⟨i, j⟩ := x
    cases π' with
    | nil =>
     simp only [gJoin, Option.some.injEq, Prod.mk.injEq] at hg'
     exact absurd hb.symm (hd1 i j _ ⟨π, ad, c1, k1, hg, rfl⟩ ad' hg'.1)
    | cons y π' =>
     obtain ⟨i', j'⟩ := y
     have h5 := hd2 i j i' j' ad.block ⟨π, ad, c1, k1, hg, rfl⟩ ⟨π', ad', c2, k2, hg', hb.symm⟩
     simp only [Prod.mk.injEq] at h5
     obtain ⟨rfl, rfl⟩ := h5
     obtain ⟨r, rs, a1, a2⟩ := hdom i j π _ hg
     rw [(hsub i r j rs a1 a2).inj π π' ad ad' c1 c2 k1 k2 hg hg' hb]
theorem Tree.root {w : World} {g : GMap} {rows : List (List PV)} (h : Tree w g rows) : ∃ A c k, g [] = some (A, c, k) ∧ rows.length ≤ c ∧ 0 < k ∧ (A = none → c = 0) ∧ (∀ r ∈ rows, r.length = k) ∧
    (∀ ad, A = some ad → ad.spot = none ∧ ∃ e cells, CellsT w ad.block k e cells ∧ ad.off + c * k ≤ cells.size ∧ ∀ (i : Nat) (r : List PV) (j : Nat) (p : PV), rows[i]? = some r → r[j]? = some p → TC (fun π => g ((i, j) :: π)) (cells.getD (ad.off + (i * k + j)) undef) p) := by
 obtain ⟨A, c, k, h1, h2⟩ := h.part [] rows rfl
 refine ⟨A, c, k, h1, h2.room, h2.pos, h2.nil, h2.len, fun ad hA => ?_⟩
 obtain ⟨d1, e, cells, d2, d3, d4⟩ := h2.mem ad hA
 refine ⟨d1, e, cells, d2, d3, fun i r j p hi hj => ?_⟩
 have := d4 i r j p hi hj
 cases p with
 | sc v' => exact this
 | sl rs =>
  obtain ⟨B, B', c', k', b1, b2, b3, b4⟩ := this
  exact ⟨B, B', c', k', b1, b2, b3, b4⟩
 | pt => exact this
 | cl => exact this
theorem Tree.sub {w : World} {g : GMap} {rows : List (List PV)} (h : Tree w g rows) {i j : Nat} {r : List PV} {rs : List (List PV)} (hi : rows[i]? = some r) (hj : r[j]? = some (.sl rs)) : Tree w (fun π => g ((i, j) :: π)) rs := by
 refine ⟨fun π rs' ht => ?_, fun π x hx => ?_, fun π π' ad ad' c c' k k' hg hg' hb => ?_⟩
 · obtain ⟨A, c, k, h1, h2⟩ := h.part ((i, j) :: π) rs' (tat_cons.2 ⟨r, rs, hi, hj, ht⟩)
   refine ⟨A, c, k, h1, h2.room, h2.pos, h2.nil, h2.len, fun ad hA => ?_⟩
   obtain ⟨d1, e, cells, d2, d3, d4⟩ := h2.mem ad hA
   refine ⟨d1, e, cells, d2, d3, fun i' r' j' p hi' hj' => ?_⟩
   have := d4 i' r' j' p hi' hj'
   cases p with
   | sc v' => exact this
   | sl rs' => exact this
   | pt => exact this
   | cl => exact this
 · obtain ⟨rs', ht⟩ := h.dom ((i, j) :: π) x hx
   obtain ⟨r', rs0, a1, a2, a3⟩ := tat_cons.1 ht
   rw [hi] at a1
   cases a1
   rw [hj] at a2
   cases a2
   exact ⟨rs', a3⟩
 · have := h.inj _ _ ad ad' c c' k k' hg hg' hb
   simpa using this
theorem Tree.subdom {w : World} {g : GMap} {rows : List (List PV)} (h : Tree w g rows) {i j : Nat} {π : List (Nat × Nat)} {x : Option Addr × Nat × Nat} (hx : g ((i, j) :: π) = some x) : ∃ (r : List PV) (rs : List (List PV)), rows[i]? = some r ∧ r[j]? = some (.sl rs) := by
 obtain ⟨rs', ht⟩ := h.dom ((i, j) :: π) x hx
 obtain ⟨r', rs0, a1, a2, _⟩ := tat_cons.1 ht
 exact ⟨r', rs0, a1, a2⟩
theorem Tree.subdis {w : World} {g : GMap} {rows : List (List PV)} (h : Tree w g rows) {i j i' j' q : Nat} (h1 : TBlk (fun π => g ((i, j) :: π)) q) (h2 : TBlk (fun π => g ((i', j') :: π)) q) : (i, j) = (i', j') := by
 obtain ⟨π, ad, c, k, a1, a2⟩ := h1
 obtain ⟨π', ad', c', k', b1, b2⟩ := h2
 have := h.inj _ _ ad ad' c c' k k' a1 b1 (a2.trans b2.symm)
 simp at this
 rw [this.1.1, this.1.2]
theorem Tree.subroot {w : World} {g : GMap} {rows : List (List PV)} (h : Tree w g rows) {i j q : Nat} (h1 : TBlk (fun π => g ((i, j) :: π)) q) {ad : Addr} {c k : Nat} (hr : g [] = some (some ad, c, k)) : ad.block ≠ q := by
 obtain ⟨π, ad', c', k', a1, a2⟩ := h1
 intro e
 have := h.inj _ _ ad ad' c c' k k' hr a1 (e.trans a2.symm)
 cases this
theorem TBlk.of_sub {g : GMap} {i j q : Nat} (h : TBlk (fun π => g ((i, j) :: π)) q) : TBlk g q := by
 obtain ⟨π, ad, c, k, a1, a2⟩ := h
 exact ⟨_, ad, c, k, a1, a2⟩
theorem tat_plain {rows : List (List PV)} (hp : (rows.all fun r => r.all PV.isSc) = true) {π : List (Nat × Nat)} {rs : List (List PV)} (h : tat rows π = some rs) : π = [] ∧ rs = rows := by
 cases π with
 | nil => simp only [tat] at h; cases h; exact ⟨rfl, rfl⟩
 | cons x π =>
  obtain ⟨i, j⟩ := x
  obtain ⟨r, rs0, a1, a2, _⟩ := tat_cons.1 h
  have h1 := List.all_eq_true.1 hp r (List.mem_of_getElem? a1)
  have h2 := List.all_eq_true.1 h1 _ (List.mem_of_getElem? a2)
  cases h2
def gOne (x : Option Addr × Nat × Nat) : GMap
 | [] => some x
 | _ => none
theorem Rep.plainSc {w : World} {R U : Nat → Prop} {v : Value} {p : PV} (h : Rep w R U v p) (hp : p.isSc = true) (s : GMap) : TC s v p := by
 cases h with
 | sc h => exact ⟨rfl, h⟩
 | _ => cases hp
theorem row_tree {w : World} {m : Mp} {R U : Nat → Prop} {A : Option Addr} {c k e : Nat} {st : RS} {rows : List (List PV)} (h : ObOk w m R U (some (.row A c k)) (.row st e k rows)) (hw : k = 1 ∨ wideT e = true) (hp : (rows.all fun r => r.all PV.isSc) = true) : Tree w (gOne (A, c, k)) rows := by
 cases h with
 | row h1 h2 h3 h4 h5 =>
  refine ⟨fun π rs ht => ?_, fun π x hx => ?_, fun π π' ad ad' c1 c2 k1 k2 hg hg' hb => ?_⟩
  · obtain ⟨rfl, rfl⟩ := tat_plain hp ht
    refine ⟨A, c, k, rfl, h1, h2, h3, h4, fun ad hA => ?_⟩
    obtain ⟨a1, _, cells, a2, a3, a4⟩ := h5 ad hA
    refine ⟨a1, e, cells, ⟨a2, hw⟩, a3, fun i r j p hi hj => ?_⟩
    have hs : p.isSc = true := List.all_eq_true.1 (List.all_eq_true.1 hp r (List.mem_of_getElem? hi)) p (List.mem_of_getElem? hj)
    have := (a4 i r j p hi hj).plainSc hs (fun _ => none)
    cases p with
    | sc v' => exact this
    | _ => cases hs
  · cases π with
    | nil => exact ⟨rows, rfl⟩
    | cons y π => cases hx
  · cases π with
    | nil => cases π' with
     | nil => rfl
     | cons y π' => cases hg'
    | cons y π => cases hg
section
variable {w0 : World} {own0 S : Nat → Prop} {hp hp' : Hp} {w w' : World} {m : Mp}
theorem asTree_ok [Dd] (M : Mem w0 own0 S hp w m) {v : Value} {t : TV} (hv : RepT w m (RR hp w m) (UU w0 S hp w m) v t) {o : Nat} {st : RS} {rows : List (List PV)} (h : asTree hp t = some (o, st, rows)) :
    ∃ ob g A A' c k, look hp o = some ob ∧ Tree w g rows ∧ g [] = some (A, c, k) ∧ v = .slice A' rows.length c ∧ (A' = A ∨ c = 0) ∧ (∀ q, TBlk g q → Blk (m o) ob q) ∧ ob ≠ .dead ∧ st ≠ .fz ∧ (st = .own → ob.mine = true) ∧
     (∀ st' e k' rows', ob = .row st' e k' rows' → k' = k) ∧ (∀ st' rows', ob = .tree st' rows' → rows' = rows) := by
 unfold asTree at h
 split at h
 · rename_i o' off len
   split at h
   · rename_i st' e k' rows' hl
     split at h
     · rename_i hc
       obtain ⟨c1, rfl, rfl, c4, c5⟩ := hc
       cases h
       cases hv with
       | @ref _ _ _ c k A A' hm hoc hA =>
        have hob := M.obs _ _ hl
        rw [hm] at hob
        have hkk : k' = k := by cases hob; rfl
        subst hkk
        refine ⟨_, gOne (A, c, k'), A, A', c, k', hl, row_tree hob c5 c4, rfl, rfl, ?_, fun q hq => ?_, by simp, c1, fun e => by rw [e]; rfl, fun _ _ _ _ h => (by cases h; rfl), fun _ _ h => by cases h⟩
        · rcases hA with hA | hA
          · left; rw [hA]; exact (Addr_add0 A k').symm
          · right; exact hA.symm
        · obtain ⟨π, ad, c', k2, a1, a2⟩ := hq
          cases π with
          | nil =>
           cases a1
           rw [hm]
           cases st <;> first | exact absurd rfl c1 | (simp [Blk, a2])
          | cons y π => cases a1
     · cases h
   · cases h
 · rename_i o' π off len
   split at h
   · rename_i st' rows' hl
     split at h
     · rename_i hc
       obtain ⟨rfl, rfl, rfl⟩ := hc
       cases h
       cases hv with
       | @nr _ _ _ c k _ A A' g hm hg hoc hA =>
        have hob := M.obs _ _ hl
        rw [hm] at hob
        cases hob with
        | tree k1 k2 k3 k4 =>
         refine ⟨_, g, A, A', c, k, hl, ⟨k2, k3, k4⟩, hg, rfl, ?_, fun q hq => ?_, by simp, k1, fun e => by rw [e]; rfl, fun _ _ _ _ h => (by cases h), fun _ _ h => by cases h; rfl⟩
         · rcases hA with hA | hA
           · left; rw [hA]; exact (Addr_add0 A k).symm
           · right; exact hA.symm
         · rw [hm]; exact hq
     · cases h
   · cases h
 · cases h
structure Killed (hp hp' : Hp) : Prop where
 same : ∀ o ob, look hp' o = some ob → look hp o = some ob ∨ ob = .dead
 none : ∀ o, look hp' o = none ↔ look hp o = none
theorem Killed.refl (hp : Hp) : Killed hp hp := ⟨fun _ _ h => .inl h, fun _ => Iff.rfl⟩
theorem Killed.put [Dd] {ob : OB} {o : Nat} (hl : look hp o = some ob) : Killed hp (Pm.put hp o .dead) := by
 refine ⟨fun q x h => ?_, fun q => ?_⟩
 · rw [look_put] at h
   split at h
   · cases h; exact .inr rfl
   · exact .inl h
 · rw [look_put]
   split
   · rename_i e; subst e; simp [hl]
   · rfl
theorem Killed.trans {hp2 : Hp} (h : Killed hp hp') (h' : Killed hp' hp2) : Killed hp hp2 := by
 refine ⟨fun o ob hl => ?_, fun o => (h'.none o).trans (h.none o)⟩
 rcases h'.same o ob hl with h1 | h1
 · exact h.same o ob h1
 · exact .inr h1
theorem not_dead {c : Option CM} {q : Nat} : ¬ Blk c .dead q := by
 intro h
 cases c with
 | none => simp [Blk] at h
 | some c => cases c <;> simp [Blk] at h
theorem Mem.plant [Dd] (M : Mem w0 own0 S hp w m) (K : Killed hp hp') {id : Nat} {ob' : OB} {cm : CM} (on : On w w') (h16 : 16 ≤ id) (hid : look hp' id = none)
    (hb : ∀ q, Blk (some cm) ob' q → (∃ o ob, look hp o = some ob ∧ look hp' o = some .dead ∧ Blk (m o) ob q) ∨ (w.heap.size ≤ q ∧ q < w'.heap.size))
    (hk : ∀ q, q < w.heap.size → ¬ Blk (some cm) ob' q → w'.heap[q]? = w.heap[q]?) (hni : ∀ q, ob'.mine = true → Blk (some cm) ob' q → w0.heap.size ≤ q)
    (hob : Goes hp w m (Pm.put hp' id ob') w' (upd m id cm) → ObOk w' (upd m id cm) (RR (Pm.put hp' id ob') w' (upd m id cm)) (UU w0 S (Pm.put hp' id ob') w' (upd m id cm)) (some cm) ob') :
    Mem w0 own0 S (Pm.put hp' id ob') w' (upd m id cm) ∧ Goes hp w m (Pm.put hp' id ob') w' (upd m id cm) := by
 have hid0 : look hp id = none := (K.none id).1 hid
 have cases_ : ∀ q x, look (Pm.put hp' id ob') q = some x → (q = id ∧ x = ob') ∨ (q ≠ id ∧ look hp' q = some x ∧ (look hp q = some x ∨ x = .dead)) := by
  intro q x h
  rw [look_put] at h
  split at h
  · rename_i e; cases h; exact .inl ⟨e, rfl⟩
  · rename_i e; exact .inr ⟨e, h, K.same q x h⟩
 have g : Goes hp w m (Pm.put hp' id ob') w' (upd m id cm) := by
  refine ⟨on, fun q c h => ?_, fun q hq hn => hk q hq fun e => ?_, fun q h => ?_, fun i hi hl => ?_⟩
  · have : q ≠ id := fun e => by rw [e, M.dom id hid0] at h; cases h
    rw [upd_other m cm this]; exact h
  · rcases hb q e with ⟨o, ob, a1, _, a3⟩ | ⟨a1, _⟩
    · exact hn ⟨o, ob, a1, a3⟩
    · omega
  · obtain ⟨q1, x, h1, h2⟩ := h
    rcases cases_ q1 x h1 with ⟨rfl, rfl⟩ | ⟨a1, _, a3⟩
    · rw [upd_same] at h2
      rcases hb q h2 with ⟨o, ob, b1, _, b3⟩ | ⟨b1, b2⟩
      · exact ⟨.inl ⟨o, ob, b1, b3⟩, Nat.lt_of_lt_of_le (M.old q ⟨o, ob, b1, b3⟩).1 on.size⟩
      · exact ⟨.inr b1, b2⟩
    · rw [upd_other m cm a1] at h2
      rcases a3 with a3 | rfl
      · have h3 : Own m hp q := ⟨q1, x, a3, h2⟩
        exact ⟨.inl h3, Nat.lt_of_lt_of_le (M.old q h3).1 on.size⟩
      · exact absurd h2 not_dead
  · rw [look_put_other _ _ (by omega)]; exact (K.none i).2 hl
 have apart : ∀ q x b, q ≠ id → look hp' q = some x → look hp q = some x → Blk (m q) x b → ¬ Blk (some cm) ob' b := by
  intro q x b hq h' h0 hx hn
  rcases hb b hn with ⟨o, ob, b1, b2, b3⟩ | ⟨b1, _⟩
  · have := M.sep q o x ob b h0 b1 hx b3
    subst this
    rw [h'] at b2
    cases b2
    exact not_dead hx
  · have := (M.old b ⟨q, x, h0, hx⟩).1
    omega
 refine ⟨M.goes g (fun q h => ?_) (fun q q' x x' c h1 h2 h3 h4 => ?_) (fun q x c h1 hmi h2 => ?_) (fun q x h => ?_), g⟩
 · rw [look_put] at h
   split at h
   · cases h
   · rename_i e1
     rw [upd_other m cm e1]; exact M.dom q ((K.none q).1 h)
 · rcases cases_ q x h1 with ⟨rfl, rfl⟩ | ⟨a1, a2, a3⟩
   · rw [upd_same] at h3
     rcases cases_ q' x' h2 with ⟨rfl, rfl⟩ | ⟨b1, b2, b3⟩
     · rfl
     · rw [upd_other m cm b1] at h4
       rcases b3 with b3 | rfl
       · exact absurd h3 (apart q' x' c b1 b2 b3 h4)
       · exact absurd h4 not_dead
   · rw [upd_other m cm a1] at h3
     rcases a3 with a3 | rfl
     rotate_left
     · exact absurd h3 not_dead
     rcases cases_ q' x' h2 with ⟨rfl, rfl⟩ | ⟨b1, b2, b3⟩
     · rw [upd_same] at h4
       exact absurd h4 (apart q x c a1 a2 a3 h3)
     · rw [upd_other m cm b1] at h4
       rcases b3 with b3 | rfl
       · exact M.sep q q' x x' c a3 b3 h3 h4
       · exact absurd h4 not_dead
 · rcases cases_ q x h1 with ⟨rfl, rfl⟩ | ⟨a1, _, a3⟩
   · rw [upd_same] at h2
     exact hni c hmi h2
   · rw [upd_other m cm a1] at h2
     rcases a3 with a3 | rfl
     · exact M.nio q x c a3 hmi h2
     · cases hmi
 · rcases cases_ q x h with ⟨rfl, rfl⟩ | ⟨a1, a2, a3⟩
   · rw [upd_same]; exact .inr (hob g)
   · rcases a3 with a3 | rfl
     · refine .inl ⟨a3, upd_other m cm a1, fun c hc => ?_⟩
       exact hk c (M.old c ⟨q, x, a3, hc⟩).1 (apart q x c a1 a2 a3 hc)
     · exact .inr .dead
theorem absorbs_ok [Dd] : ∀ {cs : List TV} {hp hp' : Hp} {f : Nat → Value} {ps : List PV} {b : Bool}, Mem w0 own0 S hp w m → (∀ (j : Nat) (t : TV), cs[j]? = some t → RepT w m (RR hp w m) (UU w0 S hp w m) (f j) t) → absorbs hp cs = some (ps, b, hp') →
    Mem w0 own0 S hp' w m ∧ Goes hp w m hp' w m ∧ Killed hp hp' ∧ ps.length = cs.length ∧ ∃ sub : Nat → GMap, (∀ (j : Nat) (p : PV), ps[j]? = some p → TC (sub j) (f j) p) ∧ (∀ (j : Nat) (rs : List (List PV)), ps[j]? = some (.sl rs) → Tree w (sub j) rs) ∧
     (∀ j π x, sub j π = some x → ∃ rs, ps[j]? = some (.sl rs)) ∧ (∀ j q, TBlk (sub j) q → ∃ o ob, look hp o = some ob ∧ look hp' o = some .dead ∧ Blk (m o) ob q) ∧ (∀ j j' q, TBlk (sub j) q → TBlk (sub j') q → j = j') ∧
     (b = true → ∀ j q, TBlk (sub j) q → w0.heap.size ≤ q) := by
 intro cs
 induction cs with
 | nil =>
  intro hp hp' f ps b M hv h
  cases h
  exact ⟨M, Goes.refl M, .refl _, rfl, fun _ _ => none, fun j p h => by simp at h, fun j rs h => by simp at h, fun j π x h => (by cases h), fun j q ⟨_, _, _, _, h, _⟩ => (by cases h), fun j j' q ⟨_, _, _, _, h, _⟩ => (by cases h), fun _ j q ⟨_, _, _, _, h, _⟩ => (by cases h)⟩
 | cons t l ih =>
  intro hp hp' f ps b M hv h
  simp only [absorbs] at h
  split at h
  rotate_left
  · cases h
  rename_i p b1 hp1 hc
  split at h
  rotate_left
  · cases h
  rename_i ps' b2 hp2 hr
  cases h
  have h0 := hv 0 t rfl
  generalize hf0 : f 0 = v0 at h0
  have first : Mem w0 own0 S hp1 w m ∧ Goes hp w m hp1 w m ∧ Killed hp hp1 ∧ ∃ s0 : GMap, TC s0 v0 p ∧ (∀ rs, p = .sl rs → Tree w s0 rs) ∧ (∀ π x, s0 π = some x → ∃ rs, p = .sl rs) ∧ (∀ q, TBlk s0 q → ∃ o ob, look hp o = some ob ∧ look hp1 o = some .dead ∧ Blk (m o) ob q) ∧ (b1 = true → ∀ q, TBlk s0 q → w0.heap.size ≤ q) := by
   unfold absorbC at hc
   split at hc
   · cases hc
     cases h0 with
     | pv hr => cases hr with
      | sc hpl => exact ⟨M, Goes.refl M, .refl _, fun _ => none, ⟨rfl, hpl⟩, fun rs h => (by cases h), fun π x h => (by cases h), fun q ⟨_, _, _, _, h, _⟩ => (by cases h), fun _ q ⟨_, _, _, _, h, _⟩ => (by cases h)⟩
   · cases hc
     cases h0
     refine ⟨M, Goes.refl M, .refl _, gOne (none, 0, 1), ⟨none, none, 0, 1, rfl, rfl, .inl rfl, by simp⟩, fun rs h => ?_, fun π x h => ⟨[], rfl⟩, fun q ⟨π, ad, _, _, h, _⟩ => ?_, fun _ q ⟨π, ad, _, _, h, _⟩ => ?_⟩
     · cases h
       refine ⟨fun π rs ht => ?_, fun π x hx => ?_, fun π π' ad ad' c1 c2 k1 k2 hg hg' hb => ?_⟩
       · obtain ⟨rfl, rfl⟩ := tat_plain (rows := []) rfl ht
         exact ⟨none, 0, 1, rfl, by simp, by simp, fun _ => rfl, fun r hr => (by cases hr), fun ad hA => (by cases hA)⟩
       · cases π with
         | nil => exact ⟨[], rfl⟩
         | cons y π => cases hx
       · cases π with
         | nil => cases hg
         | cons y π => cases hg
     · cases π <;> cases h
     · cases π <;> cases h
   · split at hc
     · rename_i o st rows ha
       cases hc
       obtain ⟨ob, g, A, A', c, k, a1, a2, a3, a4, a5, a6, a7, _, a9, _⟩ := asTree_ok M h0 ha
       obtain ⟨M1, g1⟩ := M.kill a1
       obtain ⟨A2, c2, k2, b1', b2', _⟩ := a2.root
       rw [a3] at b1'
       cases b1'
       refine ⟨M1, g1, .put a1, g, ⟨A, A', c, k, a3, a4, a5, b2'⟩, fun rs h => (by cases h; exact a2), fun π x h => ⟨rows, rfl⟩, fun q hq => ⟨o, ob, a1, look_put_same _ _ _, a6 q hq⟩, fun hb q hq => ?_⟩
       exact M.nio o ob q a1 (a9 (by simpa using hb)) (a6 q hq)
     · cases hc
  obtain ⟨M1, g1, K1, s0, t1, t2, t3, t4, t5⟩ := first
  obtain ⟨M2, g2, K2, n1, sub, u1, u2, u3, u4, u5, u6⟩ := ih (f := fun j => f (j + 1)) M1 (fun j t hj => g1.repT (hv (j + 1) t (by simpa using hj))) hr
  have back : ∀ o ob q, look hp1 o = some ob → Blk (m o) ob q → look hp o = some ob := fun o ob q hl hq => by
   rcases K1.same o ob hl with h | rfl
   · exact h
   · exact absurd hq not_dead
  have deadK : ∀ o, look hp1 o = some .dead → look hp' o = some .dead := fun o ho => by
   cases h2 : look hp' o with
   | none => rw [(K2.none o).1 h2] at ho; cases ho
   | some x =>
    rcases K2.same o x h2 with h | rfl
    · rw [ho] at h; cases h; rfl
    · rfl
  refine ⟨M2, g1.trans g2, K1.trans K2, by simp [n1], fun j => match j with | 0 => s0 | j + 1 => sub j, fun j p hj => ?_, fun j rs hj => ?_, fun j π x hx => ?_, fun j q hq => ?_, fun j j' q hq hq' => ?_, fun hb j q hq => ?_⟩
  · cases j with
    | zero => simp at hj; subst hj; rw [hf0]; exact t1
    | succ j => exact u1 j p (by simpa using hj)
  · cases j with
    | zero => simp at hj; exact t2 rs hj
    | succ j => exact u2 j rs (by simpa using hj)
  · cases j with
    | zero => obtain ⟨rs, h⟩ := t3 π x hx; exact ⟨rs, by simp [h]⟩
    | succ j => obtain ⟨rs, h⟩ := u3 j π x hx; exact ⟨rs, by simpa using h⟩
  · cases j with
    | zero =>
     obtain ⟨o, ob, a1, a2, a3⟩ := t4 q hq
     exact ⟨o, ob, a1, deadK o a2, a3⟩
    | succ j =>
     obtain ⟨o, ob, a1, a2, a3⟩ := u4 j q hq
     exact ⟨o, ob, back o ob q a1 a3, a2, a3⟩
  · have no : ∀ j, TBlk s0 q → TBlk (sub j) q → False := fun j h1 h2 => by
      obtain ⟨o, ob, a1, a2, a3⟩ := t4 q h1
      obtain ⟨o', ob', b1', b2', b3⟩ := u4 j q h2
      have := M.sep o o' ob ob' q a1 (back o' ob' q b1' b3) a3 b3
      subst this
      rw [a2] at b1'
      cases b1'
      exact not_dead b3
    cases j with
    | zero =>
     cases j' with
     | zero => rfl
     | succ j' => exact (no j' hq hq').elim
    | succ j =>
     cases j' with
     | zero => exact (no j hq' hq).elim
     | succ j' => rw [u5 j j' q hq hq']
  · simp only [Bool.and_eq_true] at hb
    cases j with
    | zero => exact t5 hb.1 q hq
    | succ j => exact u6 hb.2 j q hq
end
def TRows (k : Nat) (rows : List (List PV)) (cells : Array Value) (sub : Nat → Nat → GMap) : Prop := ∀ (i : Nat) (r : List PV) (j : Nat) (p : PV), rows[i]? = some r → r[j]? = some p → TC (sub i j) (cells.getD (i * k + j) undef) p
section
variable {w0 : World} {own0 S : Nat → Prop} {hp hp' : Hp} {w w' : World} {m : Mp} {P : Program}
theorem row_place {k i j n : Nat} (hi : i < n) (hj : j < k) : i * k + j < n * k := by
 have : (i + 1) * k ≤ n * k := Nat.mul_le_mul_right _ hi
 rw [Nat.add_mul, Nat.one_mul] at this
 omega
theorem tree_src {g : GMap} {rows : List (List PV)} (h : Tree w g rows) {v : Value} {A A' : Option Addr} {c k : Nat} (hr : g [] = some (A, c, k)) (hv : v = .slice A' rows.length c) (hA : A' = A ∨ c = 0) :
    ∃ arr : Array Value, (Builtin.lenOf v).run P w = .ok rows.length w ∧ (Builtin.firstCells k rows.length v).run P w = .ok arr w ∧ arr.size = rows.length * k ∧ TRows k rows arr (fun i j π => g ((i, j) :: π)) ∧ ∀ x ∈ arr.toList, x.oneCell' = true := by
 obtain ⟨A1, c1, k1, a1, a2, a3, a4, a5, a6⟩ := h.root
 rw [hr] at a1
 cases a1
 subst hv
 by_cases hc : c = 0
 · have hn : rows = [] := List.eq_nil_of_length_eq_zero (by omega)
   subst hn
   refine ⟨#[], by simp [Builtin.lenOf], ?_, by simp, fun i r j p hi => by simp at hi, fun x hx => by simp at hx⟩
   cases A' <;> simp [Builtin.firstCells, loadCells, loadCellsFrom]
 · have hA : A' = A := hA.resolve_right hc
   subst hA
   cases A' with
   | none => exact absurd (a4 rfl) hc
   | some ad =>
    obtain ⟨hs, e, cells, b1, b2, b3⟩ := a6 ad rfl
    obtain ⟨bl, of_, sp⟩ := ad
    simp only at hs
    subst hs
    dsimp only at b1 b2 b3
    have hfit : rows.length * k ≤ c * k := Nat.mul_le_mul_right _ a2
    have hload := run_loadCells (P := P) w ⟨bl, of_, none⟩ (rows.length * k) (fun q => cells.getD (of_ + q) undef) (fun q hq => by
     rw [Addr.add_lit, b1.1.cell]
     have hlt : of_ + q < cells.size := by omega
     simp [Array.getD_eq_getD_getElem?, hlt])
    refine ⟨_, by simp [Builtin.lenOf], by simp only [Builtin.firstCells]; exact hload, by simp, fun i r j p hi hj => ?_, fun x hx => ?_⟩
    · have hil : i < rows.length := (List.getElem?_eq_some_iff.1 hi).1
      have hrl : r.length = k := a5 r (List.mem_of_getElem? hi)
      have hjl : j < k := by rw [← hrl]; exact (List.getElem?_eq_some_iff.1 hj).1
      have hlt := row_place hil hjl
      have := b3 i r j p hi hj
      simpa [Array.getD_eq_getD_getElem?, hlt] using this
    · simp only [List.mem_map, List.mem_range] at hx
      obtain ⟨q, hq, rfl⟩ := hx
      have h1 : q / k < rows.length := Nat.div_lt_of_lt_mul (by rw [Nat.mul_comm]; exact hq)
      have h2 := List.getElem?_eq_getElem h1
      have h3 : rows[q / k].length = k := a5 _ (List.getElem_mem h1)
      have h4 : q % k < rows[q / k].length := by rw [h3]; exact Nat.mod_lt _ a3
      have := b3 _ _ _ _ h2 (List.getElem?_eq_getElem h4)
      have e1 : q / k * k + q % k = q := by
       have := Nat.div_add_mod q k
       rw [Nat.mul_comm]; exact this
      rw [e1] at this
      exact this.one
theorem TRows.append {k : Nat} {a b : List (List PV)} {ca cb cells : Array Value} {sa sb : Nat → Nat → GMap} (ha : TRows k a ca sa) (hb : TRows k b cb sb) (hla : ∀ r ∈ a, r.length = k) (hlb : ∀ r ∈ b, r.length = k) (hsa : ca.size = a.length * k)
    (hc : ∀ q, q < (a.length + b.length) * k → cells.getD q undef = (ca ++ cb).getD q undef) : TRows k (a ++ b) cells (fun i j => if i < a.length then sa i j else sb (i - a.length) j) := by
 intro i r j p hi hj
 by_cases h : i < a.length
 · rw [List.getElem?_append_left h] at hi
   have hjl : j < k := by rw [← hla r (List.mem_of_getElem? hi)]; exact (List.getElem?_eq_some_iff.1 hj).1
   have h1 := row_place h hjl
   rw [hc _ (by rw [Nat.add_mul]; omega)]
   have := ha i r j p hi hj
   simp only [h, if_true]
   simpa [Array.getD_eq_getD_getElem?, Array.getElem?_append, hsa, h1] using this
 · rw [List.getElem?_append_right (by omega)] at hi
   have hil : i - a.length < b.length := (List.getElem?_eq_some_iff.1 hi).1
   have hjl : j < k := by rw [← hlb r (List.mem_of_getElem? hi)]; exact (List.getElem?_eq_some_iff.1 hj).1
   have h1 := row_place hil hjl
   have h8 : a.length * k ≤ i * k := Nat.mul_le_mul_right _ (by omega)
   have h9 : (i - a.length) * k = i * k - a.length * k := Nat.sub_mul _ _ _
   rw [hc _ (by rw [Nat.add_mul]; omega)]
   have := hb (i - a.length) r j p hi hj
   rw [h9] at this
   simp only [h, if_false]
   have hn : ¬ (i * k + j < ca.size) := by omega
   rw [show i * k + j = ca.size + (i * k - a.length * k + j) by omega]
   have hn2 : ¬ (ca.size + (i * k - a.length * k + j) < ca.size) := by omega
   simp only [Array.getD_eq_getD_getElem?, Array.getElem?_append, hn2, if_false, Nat.add_sub_cancel_left] at this ⊢
   exact this
theorem TBlk.join {root : Option Addr × Nat × Nat} {sub : Nat → Nat → GMap} {q : Nat} (h : TBlk (gJoin root sub) q) : (∃ ad, root.1 = some ad ∧ ad.block = q) ∨ ∃ i j, TBlk (sub i j) q := by
 obtain ⟨π, ad, c, k, h1, h2⟩ := h
 cases π with
 | nil => cases h1; exact .inl ⟨ad, rfl, h2⟩
 | cons x π => obtain ⟨i, j⟩ := x; exact .inr ⟨i, j, π, ad, c, k, h1, h2⟩
theorem Tree.drew {g : GMap} {rows : List (List PV)} (h : Tree w g rows) : Tree w.drew g rows := h.keep fun _ _ => rfl
theorem plant_new [Dd] (M : Mem w0 own0 S hp w m) (K : Killed hp hp') {id : Nat} {w2 : World} (hw2 : On w w2) (hheap : w2.heap = w.heap) {st : RS} (hst : st ≠ .fz) (h16 : 16 ≤ id) (hid : look hp' id = none) {e k c : Nat} {rows : List (List PV)} {cells : Array Value} {sub : Nat → Nat → GMap}
    (hw : k = 1 ∨ wideT e = true) (h0 : 0 < k) (hc : rows.length ≤ c) (hsz : cells.size = c * k) (hlen : ∀ r ∈ rows, r.length = k) (hrows : TRows k rows cells sub)
    (hsub : ∀ (i : Nat) (r : List PV) (j : Nat) (rs : List (List PV)), rows[i]? = some r → r[j]? = some (.sl rs) → Tree w (sub i j) rs)
    (hdom : ∀ i j π x, sub i j π = some x → ∃ (r : List PV) (rs : List (List PV)), rows[i]? = some r ∧ r[j]? = some (.sl rs)) (hd2 : ∀ i j i' j' q, TBlk (sub i j) q → TBlk (sub i' j') q → (i, j) = (i', j'))
    (hown : ∀ i j q, TBlk (sub i j) q → ∃ o ob, look hp o = some ob ∧ look hp' o = some .dead ∧ Blk (m o) ob q) (hni : st = .own → ∀ i j q, TBlk (sub i j) q → w0.heap.size ≤ q) :
    ∃ m', Mem w0 own0 S (put hp' id (.tree st rows)) (w2.alloc (.cells cells e)) m' ∧ Goes hp w m (put hp' id (.tree st rows)) (w2.alloc (.cells cells e)) m' ∧
     RepT (w2.alloc (.cells cells e)) m' (RR (put hp' id (.tree st rows)) (w2.alloc (.cells cells e)) m') (UU w0 S (put hp' id (.tree st rows)) (w2.alloc (.cells cells e)) m') (.slice (some ⟨w.heap.size, 0, none⟩) rows.length c) (.nr id [] 0 rows.length) := by
 have hsize : w2.heap.size = w.heap.size := by rw [hheap]
 have hold : ∀ q, q < w.heap.size → (w2.alloc (.cells cells e)).heap[q]? = w.heap[q]? := fun q hq => by rw [alloc_old _ _ q (by omega), hheap]
 have hlt : ∀ i j q, TBlk (sub i j) q → q < w.heap.size := fun i j q hq => by
  obtain ⟨π, ad, c', k', h1, h2⟩ := hq
  obtain ⟨r, rs, a1, a2⟩ := hdom i j π _ h1
  exact (hsub i r j rs a1 a2).lt ⟨π, ad, c', k', h1, h2⟩
 have hblk : ∀ q, Blk (some (CM.tree (gJoin (some ⟨w.heap.size, 0, none⟩, c, k) sub))) (.tree st rows) q → q = w.heap.size ∨ ∃ i j, TBlk (sub i j) q := fun q hq => by
  rcases TBlk.join hq with ⟨ad, h1, h2⟩ | h
  · cases h1; exact .inl h2.symm
  · exact .inr h
 obtain ⟨M', g⟩ := M.plant (w' := w2.alloc (.cells cells e)) (id := id) (ob' := .tree st rows) (cm := .tree (gJoin (some ⟨w.heap.size, 0, none⟩, c, k) sub)) K (hw2.trans (On.alloc _ _)) h16 hid (fun q hq => by
     rcases hblk q hq with rfl | ⟨i, j, h⟩
     · exact .inr ⟨Nat.le_refl _, by rw [alloc_size]; omega⟩
     · exact .inl (hown i j q h)) (fun q hq _ => hold q hq) (fun q hm hq => by
     have hs : st = .own := by cases st <;> first | rfl | cases hm
     rcases hblk q hq with rfl | ⟨i, j, h⟩
     · exact M.fr.size
     · exact hni hs i j q h) (fun g => by
     have T := tree_join (w := w2.alloc (.cells cells e)) (rows := rows) (A := some ⟨w.heap.size, 0, none⟩) (c := c) (k := k) (sub := sub) hc h0 (fun h => by cases h) hlen (fun ad hA => by
         cases hA
         have hcs := Cells.alloc w2 cells e
         rw [hsize] at hcs
         refine ⟨rfl, e, cells, ⟨hcs, hw⟩, by simp [hsz], fun i r j p hi hj => ?_⟩
         have := hrows i r j p hi hj
         simpa using this) (fun i r j rs hi hj => (hsub i r j rs hi hj).keep fun q hq => hold q (hlt i j q hq)) hdom (fun i j q hq ad hA => by
         cases hA
         have := hlt i j q hq
         dsimp only
         omega) hd2
     exact .tree hst T.part T.dom T.inj)
 refine ⟨_, M', g, ?_⟩
 have := RepT.nr (w := w2.alloc (.cells cells e)) (R := RR (put hp' id (.tree st rows)) (w2.alloc (.cells cells e)) (upd m id (.tree (gJoin (some ⟨w.heap.size, 0, none⟩, c, k) sub)))) (U := UU w0 S (put hp' id (.tree st rows)) (w2.alloc (.cells cells e)) (upd m id (.tree (gJoin (some ⟨w.heap.size, 0, none⟩, c, k) sub))))
  (m := upd m id (.tree (gJoin (some ⟨w.heap.size, 0, none⟩, c, k) sub))) (o := id) (off := 0) (len := rows.length) (c := c) (k := k) (π := []) (A := some ⟨w.heap.size, 0, none⟩) (A' := some ⟨w.heap.size, 0, none⟩) (upd_same m id _) rfl (by omega) (.inl (by simp [Addr.add]))
 simpa using this
theorem append_tree_nil [Dd] (M : Mem w0 own0 S hp w m) {t t' e : Nat} {ti ei : TI} {d : TypeDesc} (ht : TyOk P t ti) (hk : ti.kind = .slice e) (hd1 : P.underlying t' = some d) (hd2 : (∃ e', d = .slice e') ∨ d = .string) (he : TyOk P e ei) (ty : TypeId)
    {x : Value} {tx : TV} (hx : RepT w m (RR hp w m) (UU w0 S hp w m) x tx) {o2 : Nat} {st2 : RS} {news : List (List PV)} (ha : asTree hp tx = some (o2, st2, news)) (hw : ei.size = 1 ∨ wideT e = true) (h0 : 0 < ei.size) (hne : news ≠ []) (hlen : ∀ r ∈ news, r.length = ei.size)
    (hb : news.length * ei.bytes ≤ roomBytes) (hmax : news.length ≤ 9223372036854775807) {id : Nat} (hadd : add (put hp o2 .dead) id (.tree st2 news) = some hp') :
    ∃ v w' m', (Builtin.append_ #[t, t'] ty #[.slice none 0 0, x]).run P w = .ok v w' ∧ Mem w0 own0 S hp' w' m' ∧ Goes hp w m hp' w' m' ∧ RepT w' m' (RR hp' w' m') (UU w0 S hp' w' m') v (.nr id [] 0 news.length) := by
 obtain ⟨h16, hid, rfl⟩ := add_some hadd
 obtain ⟨ob, g, A, A', c, k, a1, a2, a3, a4, a5, a6, a7, a8, a9, _⟩ := asTree_ok M hx ha
 obtain ⟨A1, c1, k1, b1, b2, b3, b4, b5, b6⟩ := a2.root
 rw [a3] at b1
 cases b1
 have hkk : k = ei.size := by
  cases news with
  | nil => exact absurd rfl hne
  | cons r l => rw [← b5 r (List.mem_cons_self ..), hlen r (List.mem_cons_self ..)]
 subst hkk
 have hpos : 0 < news.length := List.length_pos_iff.2 hne
 obtain ⟨arr, s1, s2, s3, s4, s5⟩ := tree_src (P := P) a2 a3 a4 a5
 obtain ⟨arr', t1, t2, t3, t4, t5⟩ := tree_src (P := P) a2.drew a3 a4 a5
 obtain ⟨cap, cells, r1, r2, r3, r4⟩ := run_append_new (base := none) (sl := 0) (cap := 0) (n := news.length) (old := #[]) (new := arr') ht hk hd1 hd2 he ty s1 (by omega) (by simpa using hb) (by simpa using hmax)
  (by simp [Builtin.firstCells]) t2 (by simp) t3
 simp only [Nat.zero_add] at r1 r2 r4
 obtain ⟨m', M', g', R'⟩ := plant_new (hp' := put hp o2 .dead) (w2 := w.drew) (e := e) (c := cap) (cells := cells) (sub := fun i j π => g ((i, j) :: π)) M (.put a1) ⟨rfl, rfl, rfl, Nat.le_refl _, fun _ => Nat.le_succ _⟩ rfl a8 h16 hid hw h0 r2 r3 hlen (fun i r j p hi hj => by
     have hil : i < news.length := (List.getElem?_eq_some_iff.1 hi).1
     have hjl : j < ei.size := by rw [← hlen r (List.mem_of_getElem? hi)]; exact (List.getElem?_eq_some_iff.1 hj).1
     rw [r4 _ (row_place hil hjl)]
     simpa using t4 i r j p hi hj) (fun i r j rs hi hj => a2.sub hi hj) (fun i j π x hx => a2.subdom hx) (fun i j i' j' q h h' => a2.subdis h h') (fun i j q hq => ⟨o2, ob, a1, look_put_same _ _ _, a6 q hq.of_sub⟩) (fun hs i j q hq => M.nio o2 ob q a1 (a9 hs) (a6 q hq.of_sub))
 exact ⟨_, _, m', r1, M', g', R'⟩
set_option maxHeartbeats 1000000 in
theorem append_tree_row [Dd] (M : Mem w0 own0 S hp w m) {t t' e : Nat} {ti ei : TI} {d : TypeDesc} (ht : TyOk P t ti) (hk : ti.kind = .slice e) (hd1 : P.underlying t' = some d) (hd2 : (∃ e', d = .slice e') ∨ d = .string) (he : TyOk P e ei) (ty : TypeId)
    {u x : Value} {tu tx : TV} (hu : RepT w m (RR hp w m) (UU w0 S hp w m) u tu) (hx : RepT w m (RR hp w m) (UU w0 S hp w m) x tx) {o o2 : Nat} {st st2 : RS} {rows news : List (List PV)} (hau : asTree hp tu = some (o, st, rows)) (ha : asTree hp tx = some (o2, st2, news))
    (hoo : o ≠ o2) (hko : kOk hp o ei.size = true) (hw : ei.size = 1 ∨ wideT e = true) (h0 : 0 < ei.size) (hne : news ≠ []) (hlr : ∀ r ∈ rows, r.length = ei.size) (hlen : ∀ r ∈ news, r.length = ei.size)
    (hb : (rows.length + news.length) * ei.bytes ≤ roomBytes) (hmax : rows.length + news.length ≤ 9223372036854775807) {id : Nat} (hadd : add (put (put hp o .dead) o2 .dead) id (.tree (bothOwn st st2) (rows ++ news)) = some hp') :
    ∃ v w' m', (Builtin.append_ #[t, t'] ty #[u, x]).run P w = .ok v w' ∧ Mem w0 own0 S hp' w' m' ∧ Goes hp w m hp' w' m' ∧ RepT w' m' (RR hp' w' m') (UU w0 S hp' w' m') v (.nr id [] 0 (rows.length + news.length)) := by
 obtain ⟨h16, hid, rfl⟩ := add_some hadd
 obtain ⟨obd, gd, B, B', cd, kd, d1, d2, d3, d4, d5, d6, d7, d8, d9, d10, d11⟩ := asTree_ok M hu hau
 obtain ⟨ob, g, A, A', c, k, a1, a2, a3, a4, a5, a6, a7, a8, a9, _, _⟩ := asTree_ok M hx ha
 obtain ⟨A1, c1, k1, b1, b2, b3, b4, b5, b6⟩ := a2.root
 rw [a3] at b1
 cases b1
 obtain ⟨B1, cd1, kd1, e1, e2, e3, e4, e5, e6⟩ := d2.root
 rw [d3] at e1
 cases e1
 have hkk : k = ei.size := by
  cases news with
  | nil => exact absurd rfl hne
  | cons r l => rw [← b5 r (List.mem_cons_self ..), hlen r (List.mem_cons_self ..)]
 subst hkk
 have hkd : kd = ei.size := by
  cases hr : rows with
  | cons r l => subst hr; rw [← e5 r (List.mem_cons_self ..), hlr r (List.mem_cons_self ..)]
  | nil =>
   unfold kOk at hko
   rw [d1] at hko
   cases obd with
   | row st' e' k' rows' =>
    have h1 := d10 _ _ _ _ rfl
    have h2 := Nat.eq_of_beq_eq_true hko
    omega
   | tree st' rows' =>
    have h1 := d11 _ _ rfl
    subst h1
    rw [hr] at hko
    simp at hko
   | _ => cases hko
 subst hkd
 have hpos : 0 < news.length := List.length_pos_iff.2 hne
 have hlapp : (rows ++ news).length = rows.length + news.length := by simp
 have hlall : ∀ r ∈ rows ++ news, r.length = ei.size := fun r hr => by
  rcases List.mem_append.1 hr with h | h
  · exact hlr r h
  · exact hlen r h
 let subJ : Nat → Nat → GMap := fun i j => if i < rows.length then (fun π => gd ((i, j) :: π)) else (fun π => g ((i - rows.length, j) :: π))
 have J1 : ∀ i j, i < rows.length → subJ i j = fun π => gd ((i, j) :: π) := fun i j h => by simp only [subJ, h, if_true]
 have J2 : ∀ i j, ¬ i < rows.length → subJ i j = fun π => g ((i - rows.length, j) :: π) := fun i j h => by simp only [subJ, h, if_false]
 have hsub : ∀ (i : Nat) (r : List PV) (j : Nat) (rs : List (List PV)), (rows ++ news)[i]? = some r → r[j]? = some (.sl rs) → Tree w (subJ i j) rs := fun i r j rs hi hj => by
  by_cases h : i < rows.length
  · rw [J1 i j h]
    rw [List.getElem?_append_left h] at hi
    exact d2.sub hi hj
  · rw [J2 i j h]
    rw [List.getElem?_append_right (by omega)] at hi
    exact a2.sub hi hj
 have hdom : ∀ i j π x, subJ i j π = some x → ∃ (r : List PV) (rs : List (List PV)), (rows ++ news)[i]? = some r ∧ r[j]? = some (.sl rs) := fun i j π y hy => by
  by_cases h : i < rows.length
  · rw [J1 i j h] at hy
    obtain ⟨r, rs, q1, q2⟩ := d2.subdom hy
    exact ⟨r, rs, by rw [List.getElem?_append_left h]; exact q1, q2⟩
  · rw [J2 i j h] at hy
    obtain ⟨r, rs, q1, q2⟩ := a2.subdom hy
    exact ⟨r, rs, by rw [List.getElem?_append_right (by omega)]; exact q1, q2⟩
 have cross : ∀ q, TBlk gd q → TBlk g q → False := fun q h h' => hoo (M.sep o o2 obd ob q d1 a1 (d6 q h) (a6 q h'))
 have hd2' : ∀ i j i' j' q, TBlk (subJ i j) q → TBlk (subJ i' j') q → (i, j) = (i', j') := fun i j i' j' q h h' => by
  by_cases hi : i < rows.length
  · rw [J1 i j hi] at h
    by_cases hi' : i' < rows.length
    · rw [J1 i' j' hi'] at h'
      exact d2.subdis h h'
    · rw [J2 i' j' hi'] at h'
      exact (cross q h.of_sub h'.of_sub).elim
  · rw [J2 i j hi] at h
    by_cases hi' : i' < rows.length
    · rw [J1 i' j' hi'] at h'
      exact (cross q h'.of_sub h.of_sub).elim
    · rw [J2 i' j' hi'] at h'
      have := a2.subdis h h'
      simp only [Prod.mk.injEq] at this
      rw [show i = i' by omega, this.2]
 have K : Killed hp (put (put hp o .dead) o2 .dead) := (Killed.put d1).trans (.put (ob := ob) (by rw [look_put_other _ _ hoo.symm]; exact a1))
 have dead1 : look (put (put hp o .dead) o2 .dead) o = some .dead := by rw [look_put_other _ _ hoo, look_put_same]
 have dead2 : look (put (put hp o .dead) o2 .dead) o2 = some .dead := look_put_same _ _ _
 have which : ∀ i j q, TBlk (subJ i j) q → TBlk gd q ∨ TBlk g q := fun i j q h => by
  by_cases hi : i < rows.length
  · rw [J1 i j hi] at h; exact .inl h.of_sub
  · rw [J2 i j hi] at h; exact .inr h.of_sub
 have hown : ∀ i j q, TBlk (subJ i j) q → ∃ o' ob', look hp o' = some ob' ∧ look (put (put hp o .dead) o2 .dead) o' = some .dead ∧ Blk (m o') ob' q := fun i j q h => by
  rcases which i j q h with h | h
  · exact ⟨o, obd, d1, dead1, d6 q h⟩
  · exact ⟨o2, ob, a1, dead2, a6 q h⟩
 have both : bothOwn st st2 = .own → st = .own ∧ st2 = .own := fun h => by cases st <;> cases st2 <;> first | exact ⟨rfl, rfl⟩ | cases h
 have hni : bothOwn st st2 = .own → ∀ i j q, TBlk (subJ i j) q → w0.heap.size ≤ q := fun hs i j q h => by
  obtain ⟨h1, h2⟩ := both hs
  rcases which i j q h with h | h
  · exact M.nio o obd q d1 (d9 h1) (d6 q h)
  · exact M.nio o2 ob q a1 (a9 h2) (a6 q h)
 have hst : bothOwn st st2 ≠ .fz := by cases st <;> cases st2 <;> simp [bothOwn]
 obtain ⟨arr, s1, s2, s3, s4, s5⟩ := tree_src (P := P) a2 a3 a4 a5
 by_cases hroom : rows.length + news.length ≤ cd
 · have hcd : cd ≠ 0 := by omega
   have hB : B' = B := d5.resolve_right hcd
   subst hB
   cases B' with
   | none => exact absurd (e4 rfl) hcd
   | some bd =>
    obtain ⟨hs, eb, cells, ⟨f1, fw⟩, f2, f3⟩ := e6 bd rfl
    obtain ⟨bl, of_, sp⟩ := bd
    simp only at hs
    subst hs
    dsimp only at f1 f2 f3
    have hcap : (rows.length + news.length) * ei.size ≤ cd * ei.size := Nat.mul_le_mul_right _ hroom
    rw [Nat.add_mul] at hcap
    have hlenarr : arr.toList.length = news.length * ei.size := by simpa using s3
    have hfit : of_ + rows.length * ei.size + arr.toList.length ≤ cells.size := by omega
    have hstore := run_storeCells_cells (P := P) bl (of_ + rows.length * ei.size) arr.toList 0 w (fun j hj => f1.isSome (by omega)) (fun j hj => f1.frz (by omega)) s5
    simp only [Nat.add_zero] at hstore
    have hrun := run_append_in (P := P) (w := w) (base := some ⟨bl, of_, none⟩) (sl := rows.length) (cap := cd) (x := x) ht hk hd1 hd2 he ty s1 hroom s2 (w' := w.setCells bl (of_ + rows.length * ei.size) arr.toList)
     (fun a ha => by cases ha; rw [Addr.add_lit]; exact hstore) (fun h => by cases h)
    have hroot : TBlk gd bl := ⟨[], _, _, _, d3, rfl⟩
    have hne_bl : ∀ i j q, TBlk (subJ i j) q → q ≠ bl := fun i j q h => by
     by_cases hi : i < rows.length
     · rw [J1 i j hi] at h
       exact fun e => d2.subroot h d3 e.symm
     · rw [J2 i j hi] at h
       intro e
       subst e
       exact cross q hroot h.of_sub
    have hblk : ∀ q, Blk (some (CM.tree (gJoin (some ⟨bl, of_, none⟩, cd, ei.size) subJ))) (.tree (bothOwn st st2) (rows ++ news)) q → q = bl ∨ ∃ i j, TBlk (subJ i j) q := fun q hq => by
     rcases TBlk.join hq with ⟨ad, h1, h2⟩ | h
     · cases h1; exact .inl h2.symm
     · exact .inr h
    obtain ⟨M', g'⟩ := M.plant (w' := w.setCells bl (of_ + rows.length * ei.size) arr.toList) (id := id) (ob' := .tree (bothOwn st st2) (rows ++ news)) (cm := .tree (gJoin (some ⟨bl, of_, none⟩, cd, ei.size) subJ)) K (setCells_on bl _ _ _) h16 hid (fun q hq => by
        rcases hblk q hq with rfl | ⟨i, j, h⟩
        · exact .inl ⟨o, obd, d1, dead1, d6 _ hroot⟩
        · exact .inl (hown i j q h)) (fun q hq hn => setCells_heap bl _ _ _ q fun e => hn ⟨[], _, _, _, rfl, e.symm⟩) (fun q hm hq => by
        have hs : bothOwn st st2 = .own := by cases h : bothOwn st st2 <;> first | rfl | (rw [h] at hm; cases hm)
        rcases hblk q hq with rfl | ⟨i, j, h⟩
        · exact M.nio o obd q d1 (d9 (both hs).1) (d6 _ hroot)
        · exact hni hs i j q h) (fun g' => by
        have T := tree_join (w := w.setCells bl (of_ + rows.length * ei.size) arr.toList) (rows := rows ++ news) (A := some ⟨bl, of_, none⟩) (c := cd) (k := ei.size) (sub := subJ) (by rw [hlapp]; exact hroom) h0 (fun h => by cases h) hlall (fun ad hA => by
            cases hA
            refine ⟨rfl, eb, _, ⟨Cells.setCells _ _ f1, fw⟩, by rw [over_size]; exact f2, fun i r j p hi hj => ?_⟩
            dsimp only
            have hjl : j < ei.size := by rw [← hlall r (List.mem_of_getElem? hi)]; exact (List.getElem?_eq_some_iff.1 hj).1
            rw [over_get _ _ _ hfit, hlenarr]
            by_cases h : i < rows.length
            · rw [List.getElem?_append_left h] at hi
              have h1 := row_place h hjl
              rw [if_neg (by omega), J1 i j h]
              exact f3 i r j p hi hj
            · rw [List.getElem?_append_right (by omega)] at hi
              have hil : i - rows.length < news.length := (List.getElem?_eq_some_iff.1 hi).1
              have h1 := row_place hil hjl
              have h8 : rows.length * ei.size ≤ i * ei.size := Nat.mul_le_mul_right _ (by omega)
              have h9 : (i - rows.length) * ei.size = i * ei.size - rows.length * ei.size := Nat.sub_mul _ _ _
              rw [if_pos (by omega), getD_list, J2 i j h]
              have := s4 (i - rows.length) r j p hi hj
              rw [h9] at this
              rw [show of_ + (i * ei.size + j) - (of_ + rows.length * ei.size) = i * ei.size - rows.length * ei.size + j by omega]
              exact this) (fun i r j rs hi hj => (hsub i r j rs hi hj).keep fun q hq => setCells_heap bl _ _ _ q (hne_bl i j q hq)) hdom (fun i j q hq ad hA => by
            cases hA
            exact fun e => hne_bl i j q hq e.symm) hd2'
        exact .tree hst T.part T.dom T.inj)
    subst d4
    refine ⟨_, _, _, hrun, M', g', ?_⟩
    have := RepT.nr (w := w.setCells bl (of_ + rows.length * ei.size) arr.toList) (R := RR (put (put (put hp o .dead) o2 .dead) id (.tree (bothOwn st st2) (rows ++ news))) (w.setCells bl (of_ + rows.length * ei.size) arr.toList) (upd m id (.tree (gJoin (some ⟨bl, of_, none⟩, cd, ei.size) subJ))))
     (U := UU w0 S (put (put (put hp o .dead) o2 .dead) id (.tree (bothOwn st st2) (rows ++ news))) (w.setCells bl (of_ + rows.length * ei.size) arr.toList) (upd m id (.tree (gJoin (some ⟨bl, of_, none⟩, cd, ei.size) subJ))))
     (m := upd m id (.tree (gJoin (some ⟨bl, of_, none⟩, cd, ei.size) subJ))) (o := id) (off := 0) (len := rows.length + news.length) (c := cd) (k := ei.size) (π := []) (A := some ⟨bl, of_, none⟩) (A' := some ⟨bl, of_, none⟩) (upd_same m id _) rfl (by omega) (.inl (by simp [Addr.add]))
    simpa using this
 · obtain ⟨arr', t1, t2, t3, t4, t5⟩ := tree_src (P := P) a2.drew a3 a4 a5
   obtain ⟨oarr, o1, o2', o3, o4, o5⟩ := tree_src (P := P) d2.drew d3 d4 d5
   subst d4
   obtain ⟨cap, ncells, r1, r2, r3, r4⟩ := run_append_new (base := B') (sl := rows.length) (cap := cd) (n := news.length) (old := oarr) (new := arr') ht hk hd1 hd2 he ty s1 (by omega) hb hmax o2' t2 o3 t3
   obtain ⟨m', M', g', R'⟩ := plant_new (hp' := put (put hp o .dead) o2 .dead) (w2 := w.drew) (e := e) (c := cap) (cells := ncells) (rows := rows ++ news) (sub := subJ) M K ⟨rfl, rfl, rfl, Nat.le_refl _, fun _ => Nat.le_succ _⟩ rfl hst h16 hid hw h0 (by rw [hlapp]; exact r2) r3 hlall (by
       have := TRows.append (cells := ncells) o4 t4 hlr hlen o3 r4
       intro i r j p hi hj
       have h := this i r j p hi hj
       by_cases h1 : i < rows.length
       · rw [J1 i j h1]; simpa only [h1, if_true] using h
       · rw [J2 i j h1]; simpa only [h1, if_false] using h) hsub hdom hd2' hown hni
   rw [hlapp] at R'
   exact ⟨_, _, m', r1, M', g', R'⟩
end
end Go.Pm
namespace Go.Pm
open Go
theorem pureSem_run {α : Type} {s : Sem α} {a : α} (h : pureSem s = some a) (P : Program) (w : World) : s.run P w = .ok a w := by
 cases s <;> simp [pureSem] at h
 subst h; rfl
theorem binSc_ok [Dd] {P : Program} {t : Nat} {ti : TI} (ht : TyOk P t ti) {op : BinOp} {a b v : Value} (h : binSc ti.kind op a b = some v) (x y : Operand) (w : World) :
    (do eqGuard op t x y a b; binOp op t a b : Sem Value).run P w = .ok v w := by
 unfold binSc at h
 split at h
 · rename_i ka a kb b
   have e : binOp op t (.int ka a) (.int kb b) = binOp op 0 (.int ka a) (.int kb b) := by cases op <;> simp [binOp]
   have hg : (eqGuard op t x y (.int ka a) (.int kb b)).run P w = .ok () w := by cases op <;> simp [eqGuard]
   simp only [Sem.run_bind, hg, Result.andThen_ok, e]
   exact pureSem_run h P w
 · rename_i a b
   have e : binOp op t (.string a) (.string b) = Op.stringOp op a b := by cases op <;> simp [binOp]
   have hg : (eqGuard op t x y (.string a) (.string b)).run P w = .ok () w := by cases op <;> simp [eqGuard]
   simp only [Sem.run_bind, hg, Result.andThen_ok, e]
   exact pureSem_run h P w
 · rename_i a b
   split at h
   · rename_i hk
     obtain ⟨d, hd1, hd2⟩ := ht.desc
     have hd : d = .bool := by rw [hk] at hd2; cases d <;> simp [dOk] at hd2; rfl
     subst hd
     split at h
     · rename_i e; subst e; cases h
       simp [eqGuard, binOp, Op.equal, Op.maxDepth, run_equalIn_bool w 9999 t a b hd1]
     · split at h
       · rename_i e; subst e; cases h
         simp [eqGuard, binOp, Op.equal, Op.maxDepth, run_equalIn_bool w 9999 t a b hd1]
         cases a <;> cases b <;> rfl
       · cases h
   · cases h
 · cases h
section
variable {w0 : World} {own0 S : Nat → Prop} {n : Nat} {s : St} {a : Act} {w : World} {m : Mp}
theorem RepT.scv {w : World} {m : Mp} {R U : Nat → Prop} {v : Value} {b : Bool} {x : Value} (h : RepT w m R U v (.pv b (.sc x))) : v = x ∧ plain x = true := by
 cases h with
 | pv h => cases h with
  | sc h => exact ⟨rfl, h⟩
theorem RepT.pvv {w : World} {m : Mp} {R U : Nat → Prop} {v : Value} {b : Bool} {p : PV} (h : RepT w m R U v (.pv b p)) : Rep w (bif b then R else U) U v p := by
 cases h with
 | pv h => exact h
theorem repSc {w : World} {m : Mp} {R U : Nat → Prop} {b : Bool} {x : Value} (h : plain x = true) : RepT w m R U x (.pv b (.sc x)) := .pv (.sc h)
theorem getD_arr {arr : Array Value} {j : Nat} (h : j < arr.size) : arr[j]? = some (arr.getD j undef) := by simp [Array.getD_eq_getD_getElem?, h]
theorem fieldPlace_ok {P : Program} {f : Field} {ti : TypeInfo} (h : P.info? f.type = some ti) (hz : ti.size ≠ 0) (a : Addr) (w : World) : (fieldPlace a f).run P w = .ok (a.add f.offset) w := by
 simp [fieldPlace, sizeOf, typeInfo, h, hz]
theorem fieldAddr_ok [Dd] {C : Cfg} {t i : Nat} {ti : TI} {fs : List (Nat × Nat)} {off ft : Nat} (ht : TyOk C.P t ti) (hk : ti.kind = .struct fs) (hi : fs[i]? = some (off, ft)) (ad : Addr) (hs : ad.spot = none) (w : World) :
    (Instr.fieldAt t (.pointer (some ad)) i).run C.P w = .ok (.pointer (some ⟨ad.block, ad.off + off, none⟩)) w := by
 obtain ⟨fields, h1, h2, h3⟩ := ht.strct w hk
 obtain ⟨f, f1, f2, f3, tii, f4, f5⟩ := h3 i _ hi
 obtain ⟨bl, of_, sp⟩ := ad
 simp only at hs
 subst hs
 simp [Instr.fieldAt, h1, f1, Instr.sureAddr, fieldPlace_ok f4 f5, f2, Addr.add_lit]
theorem drop_rep {w : World} {R U : Nat → Prop} {ad : Addr} {cells : List PV} {off : Nat} (hs : ad.spot = none) (h : Rep w R U (.pointer (some ad)) (.pt cells)) : Rep w R U (.pointer (some ⟨ad.block, ad.off + off, none⟩)) (.pt (cells.drop off)) := by
 cases h with
 | pt u _ hR hc hr => exact .pt (fun j => u (off + j)) rfl hR (fun j p hj => by rw [List.getElem?_drop] at hj; have := hc _ _ hj; dsimp only; rw [Nat.add_assoc]; exact this) (fun j p hj => by rw [List.getElem?_drop] at hj; exact hr _ _ hj)
end
end Go.Pm
