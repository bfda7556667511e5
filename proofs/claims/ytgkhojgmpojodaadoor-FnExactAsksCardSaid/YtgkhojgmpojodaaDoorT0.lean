/- Closed facts of this seat's program for the pure machine: its table of types, the orders of the drawn regions, what is asked of it. -/
import Derived.Test.YtgkhojgmpojodaaDoorPm4
import Derived.Test.YtgkhojgmpojodaaDoorChecked
import Derived.Lib.AtoiAll
namespace Go.Proofs.YtgkhojgmpojodaaDoor
open Go Go.Pm Go.Proofs
set_option linter.unusedVariables false
set_option linter.unusedSimpArgs false
def tab : List (Nat × TI) := [
  (1, ⟨1, 8, .other, .pv false (.sc .nilFunc)⟩),
  (2, ⟨1, 8, .int .i64, .pv false (.sc (.int .i64 0))⟩),
  (3, ⟨1, 8, .int .i64, .pv false (.sc (.int .i64 0))⟩),
  (4, ⟨1, 1, .bool, .pv false (.sc (.bool false))⟩),
  (5, ⟨1, 1, .int .u8, .pv false (.sc (.int .u8 0))⟩),
  (6, ⟨1, 1, .int .u8, .pv false (.sc (.int .u8 0))⟩),
  (7, ⟨4, 24, .struct [(0, 2), (1, 3), (2, 4), (3, 6)], .ag [.pv false (.sc (.int .i64 0)), .pv false (.sc (.int .i64 0)), .pv false (.sc (.bool false)), .pv false (.sc (.int .u8 0))]⟩),
  (8, ⟨4, 24, .struct [(0, 2), (1, 3), (2, 4), (3, 6)], .ag [.pv false (.sc (.int .i64 0)), .pv false (.sc (.int .i64 0)), .pv false (.sc (.bool false)), .pv false (.sc (.int .u8 0))]⟩),
  (9, ⟨1, 16, .str, .pv false (.sc (.string ⟨#[]⟩))⟩),
  (10, ⟨1, 16, .str, .pv false (.sc (.string ⟨#[]⟩))⟩),
  (11, ⟨1, 16, .str, .pv false (.sc (.string ⟨#[]⟩))⟩),
  (12, ⟨1, 8, .int .u64, .pv false (.sc (.int .u64 0))⟩),
  (13, ⟨2, 24, .struct [(0, 9), (1, 12)], .ag [.pv false (.sc (.string ⟨#[]⟩)), .pv false (.sc (.int .u64 0))]⟩),
  (14, ⟨2, 24, .struct [(0, 9), (1, 12)], .ag [.pv false (.sc (.string ⟨#[]⟩)), .pv false (.sc (.int .u64 0))]⟩),
  (15, ⟨1, 8, .ptr 132, .pv false (.sc (.pointer none))⟩),
  (16, ⟨1, 8, .ptr 135, .pv false (.sc (.pointer none))⟩),
  (17, ⟨1, 8, .ptr 142, .pv false (.sc (.pointer none))⟩),
  (18, ⟨1, 8, .struct [(0, 17)], .ag [.pv false (.sc (.pointer none))]⟩),
  (19, ⟨1, 8, .struct [(0, 17)], .ag [.pv false (.sc (.pointer none))]⟩),
  (20, ⟨1, 16, .ifc, .pv false (.sc .nilIface)⟩),
  (21, ⟨1, 4, .int .i32, .pv false (.sc (.int .i32 0))⟩),
  (22, ⟨1, 24, .slice 45, .nl⟩),
  (23, ⟨2, 32, .struct [(0, 22), (1, 3)], .ag [.nl, .pv false (.sc (.int .i64 0))]⟩),
  (24, ⟨2, 32, .struct [(0, 22), (1, 3)], .ag [.nl, .pv false (.sc (.int .i64 0))]⟩),
  (25, ⟨1, 8, .other, .pv false (.sc .nilFunc)⟩),
  (26, ⟨1, 8, .other, .pv false (.sc .nilFunc)⟩),
  (27, ⟨1, 24, .slice 50, .nl⟩),
  (28, ⟨2, 32, .struct [(0, 27), (1, 3)], .ag [.nl, .pv false (.sc (.int .i64 0))]⟩),
  (29, ⟨2, 32, .struct [(0, 27), (1, 3)], .ag [.nl, .pv false (.sc (.int .i64 0))]⟩),
  (30, ⟨1, 8, .other, .pv false (.sc .nilFunc)⟩),
  (31, ⟨1, 8, .other, .pv false (.sc .nilFunc)⟩),
  (32, ⟨1, 8, .other, .pv false (.sc .nilFunc)⟩),
  (33, ⟨1, 8, .other, .pv false (.sc .nilFunc)⟩),
  (34, ⟨1, 24, .slice 5, .nl⟩),
  (35, ⟨1, 8, .other, .pv false (.sc .nilFunc)⟩),
  (36, ⟨1, 8, .other, .pv false (.sc .nilFunc)⟩),
  (37, ⟨1, 8, .other, .pv false (.sc .nilFunc)⟩),
  (38, ⟨1, 8, .other, .pv false (.sc .nilFunc)⟩),
  (39, ⟨1, 8, .other, .pv false (.sc .nilFunc)⟩),
  (40, ⟨1, 24, .slice 34, .nl⟩),
  (41, ⟨1, 24, .slice 43, .nl⟩),
  (42, ⟨5, 88, .struct [(0, 3), (1, 3), (2, 34), (3, 40), (4, 41)], .ag [.pv false (.sc (.int .i64 0)), .pv false (.sc (.int .i64 0)), .nl, .nl, .nl]⟩),
  (43, ⟨5, 88, .struct [(0, 3), (1, 3), (2, 34), (3, 40), (4, 41)], .ag [.pv false (.sc (.int .i64 0)), .pv false (.sc (.int .i64 0)), .nl, .nl, .nl]⟩),
  (44, ⟨9, 152, .struct [(0, 3), (1, 34), (2, 3), (3, 43), (8, 40)], .ag [.pv false (.sc (.int .i64 0)), .nl, .pv false (.sc (.int .i64 0)), .pv false (.sc (.int .i64 0)), .pv false (.sc (.int .i64 0)), .nl, .nl, .nl, .nl]⟩),
  (45, ⟨9, 152, .struct [(0, 3), (1, 34), (2, 3), (3, 43), (8, 40)], .ag [.pv false (.sc (.int .i64 0)), .nl, .pv false (.sc (.int .i64 0)), .pv false (.sc (.int .i64 0)), .pv false (.sc (.int .i64 0)), .nl, .nl, .nl, .nl]⟩),
  (46, ⟨1, 24, .slice 48, .nl⟩),
  (47, ⟨5, 88, .struct [(0, 3), (1, 3), (2, 34), (3, 40), (4, 46)], .ag [.pv false (.sc (.int .i64 0)), .pv false (.sc (.int .i64 0)), .nl, .nl, .nl]⟩),
  (48, ⟨5, 88, .struct [(0, 3), (1, 3), (2, 34), (3, 40), (4, 46)], .ag [.pv false (.sc (.int .i64 0)), .pv false (.sc (.int .i64 0)), .nl, .nl, .nl]⟩),
  (49, ⟨9, 152, .struct [(0, 3), (1, 34), (2, 3), (3, 48), (8, 40)], .ag [.pv false (.sc (.int .i64 0)), .nl, .pv false (.sc (.int .i64 0)), .pv false (.sc (.int .i64 0)), .pv false (.sc (.int .i64 0)), .nl, .nl, .nl, .nl]⟩),
  (50, ⟨9, 152, .struct [(0, 3), (1, 34), (2, 3), (3, 48), (8, 40)], .ag [.pv false (.sc (.int .i64 0)), .nl, .pv false (.sc (.int .i64 0)), .pv false (.sc (.int .i64 0)), .pv false (.sc (.int .i64 0)), .nl, .nl, .nl, .nl]⟩),
  (51, ⟨1, 8, .other, .pv false (.sc .nilFunc)⟩),
  (52, ⟨1, 8, .other, .pv false (.sc .nilFunc)⟩),
  (53, ⟨1, 8, .other, .pv false (.sc .nilFunc)⟩),
  (54, ⟨1, 8, .other, .pv false (.sc .nilFunc)⟩),
  (55, ⟨1, 8, .other, .pv false (.sc .nilFunc)⟩),
  (56, ⟨1, 8, .other, .pv false (.sc .nilFunc)⟩),
  (57, ⟨1, 8, .other, .pv false (.sc .nilFunc)⟩),
  (58, ⟨1, 8, .other, .pv false (.sc .nilFunc)⟩),
  (59, ⟨1, 8, .other, .pv false (.sc .nilFunc)⟩),
  (60, ⟨1, 8, .other, .pv false (.sc .nilFunc)⟩),
  (61, ⟨1, 8, .other, .pv false (.sc .nilFunc)⟩),
  (62, ⟨1, 8, .other, .pv false (.sc .nilFunc)⟩),
  (63, ⟨1, 8, .other, .pv false (.sc .nilFunc)⟩),
  (65, ⟨1, 8, .other, .pv false (.sc .nilFunc)⟩),
  (66, ⟨1, 8, .other, .pv false (.sc .nilFunc)⟩),
  (67, ⟨1, 24, .slice 9, .nl⟩),
  (68, ⟨1, 8, .other, .pv false (.sc .nilFunc)⟩),
  (69, ⟨1, 8, .other, .pv false (.sc .nilFunc)⟩),
  (70, ⟨1, 8, .other, .pv false (.sc .nilFunc)⟩),
  (71, ⟨1, 8, .other, .pv false (.sc .nilFunc)⟩),
  (72, ⟨1, 8, .other, .pv false (.sc .nilFunc)⟩),
  (74, ⟨1, 8, .other, .pv false (.sc .nilFunc)⟩),
  (75, ⟨1, 16, .ifc, .pv false (.sc .nilIface)⟩),
  (76, ⟨1, 16, .ifc, .pv false (.sc .nilIface)⟩),
  (78, ⟨1, 8, .other, .pv false (.sc .nilFunc)⟩),
  (79, ⟨1, 8, .other, .pv false (.sc .nilFunc)⟩),
  (80, ⟨1, 8, .other, .pv false (.sc .nilFunc)⟩),
  (81, ⟨1, 8, .other, .pv false (.sc .nilFunc)⟩),
  (82, ⟨1, 8, .other, .pv false (.sc .nilFunc)⟩),
  (83, ⟨1, 8, .other, .pv false (.sc .nilFunc)⟩),
  (84, ⟨1, 8, .other, .pv false (.sc .nilFunc)⟩),
  (85, ⟨1, 8, .other, .pv false (.sc .nilFunc)⟩),
  (86, ⟨1, 8, .other, .pv false (.sc .nilFunc)⟩),
  (87, ⟨1, 8, .other, .pv false (.sc .nilFunc)⟩),
  (88, ⟨1, 8, .other, .pv false (.sc .nilFunc)⟩),
  (89, ⟨1, 8, .other, .pv false (.sc .nilFunc)⟩),
  (90, ⟨1, 8, .other, .pv false (.sc .nilFunc)⟩),
  (91, ⟨1, 8, .other, .pv false (.sc .nilFunc)⟩),
  (92, ⟨1, 8, .other, .pv false (.sc .nilFunc)⟩),
  (93, ⟨1, 8, .int .u64, .pv false (.sc (.int .u64 0))⟩),
  (94, ⟨1, 8, .int .i64, .pv false (.sc (.int .i64 0))⟩),
  (96, ⟨1, 8, .other, .pv false (.sc .nilFunc)⟩),
  (97, ⟨1, 8, .ptr 110, .pv false (.sc (.pointer none))⟩),
  (98, ⟨1, 8, .other, .pv false (.sc .nilFunc)⟩),
  (99, ⟨1, 8, .other, .pv false (.sc .nilFunc)⟩),
  (100, ⟨1, 8, .other, .pv false (.sc .nilFunc)⟩),
  (101, ⟨1, 8, .other, .pv false (.sc .nilFunc)⟩),
  (102, ⟨1, 4, .int .u32, .pv false (.sc (.int .u32 0))⟩),
  (104, ⟨1, 8, .other, .pv false (.sc .nilFunc)⟩),
  (105, ⟨1, 8, .int .u64, .pv false (.sc (.int .u64 0))⟩),
  (107, ⟨1, 8, .other, .pv false (.sc .nilFunc)⟩),
  (108, ⟨1, 8, .other, .pv false (.sc .nilFunc)⟩),
  (109, ⟨3, 48, .struct [(0, 9), (1, 9), (2, 76)], .ag [.pv false (.sc (.string ⟨#[]⟩)), .pv false (.sc (.string ⟨#[]⟩)), .pv false (.sc .nilIface)]⟩),
  (110, ⟨3, 48, .struct [(0, 9), (1, 9), (2, 76)], .ag [.pv false (.sc (.string ⟨#[]⟩)), .pv false (.sc (.string ⟨#[]⟩)), .pv false (.sc .nilIface)]⟩),
  (111, ⟨1, 8, .other, .pv false (.sc .nilFunc)⟩),
  (112, ⟨24, 24, .arr 24 5, .ar (List.replicate 24 (.sc (.int .u8 0)))⟩),
  (113, ⟨1, 8, .other, .pv false (.sc .nilFunc)⟩),
  (114, ⟨1, 8, .other, .pv false (.sc .nilFunc)⟩),
  (116, ⟨1, 8, .other, .pv false (.sc .nilFunc)⟩),
  (117, ⟨1, 8, .other, .pv false (.sc .nilFunc)⟩),
  (118, ⟨1, 8, .other, .pv false (.sc .nilFunc)⟩),
  (119, ⟨1, 8, .ptr 5, .pv false (.sc (.pointer none))⟩),
  (120, ⟨1, 8, .ptr 122, .pv false (.sc (.pointer none))⟩),
  (121, ⟨1, 16, .struct [(0, 9)], .ag [.pv false (.sc (.string ⟨#[]⟩))]⟩),
  (122, ⟨1, 16, .struct [(0, 9)], .ag [.pv false (.sc (.string ⟨#[]⟩))]⟩),
  (123, ⟨1, 8, .other, .pv false (.sc .nilFunc)⟩),
  (124, ⟨20, 160, .arr 20 105, .ar (List.replicate 20 (.sc (.int .u64 0)))⟩),
  (125, ⟨65, 65, .arr 65 5, .ar (List.replicate 65 (.sc (.int .u8 0)))⟩),
  (126, ⟨1, 8, .other, .pv false (.sc .nilFunc)⟩),
  (127, ⟨1, 8, .other, .pv false (.sc .nilFunc)⟩),
  (128, ⟨32, 32, .arr 32 5, .ar (List.replicate 32 (.sc (.int .u8 0)))⟩),
  (129, ⟨64, 64, .arr 64 5, .ar (List.replicate 64 (.sc (.int .u8 0)))⟩),
  (130, ⟨1, 8, .other, .pv false (.sc .nilFunc)⟩),
  (131, ⟨4, 40, .struct [(0, 17), (1, 17), (2, 17), (3, 9)], .ag [.pv false (.sc (.pointer none)), .pv false (.sc (.pointer none)), .pv false (.sc (.pointer none)), .pv false (.sc (.string ⟨#[]⟩))]⟩),
  (132, ⟨4, 40, .struct [(0, 17), (1, 17), (2, 17), (3, 9)], .ag [.pv false (.sc (.pointer none)), .pv false (.sc (.pointer none)), .pv false (.sc (.pointer none)), .pv false (.sc (.string ⟨#[]⟩))]⟩),
  (133, ⟨0, 0, .arr 0 16, .ar []⟩),
  (136, ⟨1, 1, .int .u8, .pv false (.sc (.int .u8 0))⟩),
  (137, ⟨1, 1, .int .u8, .pv false (.sc (.int .u8 0))⟩),
  (138, ⟨1, 8, .other, .pv false (.sc .nilFunc)⟩),
  (139, ⟨1, 4, .int .i32, .pv false (.sc (.int .i32 0))⟩),
  (140, ⟨1, 4, .int .i32, .pv false (.sc (.int .i32 0))⟩),
  (141, ⟨11, 48, .struct [(0, 12), (1, 12), (2, 102), (3, 136), (4, 5), (5, 5), (6, 137), (7, 138), (8, 119), (9, 139), (10, 140)], .ag [.pv false (.sc (.int .u64 0)), .pv false (.sc (.int .u64 0)), .pv false (.sc (.int .u32 0)), .pv false (.sc (.int .u8 0)), .pv false (.sc (.int .u8 0)), .pv false (.sc (.int .u8 0)), .pv false (.sc (.int .u8 0)), .pv false (.sc .nilFunc), .pv false (.sc (.pointer none)), .pv false (.sc (.int .i32 0)), .pv false (.sc (.int .i32 0))]⟩),
  (142, ⟨11, 48, .struct [(0, 12), (1, 12), (2, 102), (3, 136), (4, 5), (5, 5), (6, 137), (7, 138), (8, 119), (9, 139), (10, 140)], .ag [.pv false (.sc (.int .u64 0)), .pv false (.sc (.int .u64 0)), .pv false (.sc (.int .u32 0)), .pv false (.sc (.int .u8 0)), .pv false (.sc (.int .u8 0)), .pv false (.sc (.int .u8 0)), .pv false (.sc (.int .u8 0)), .pv false (.sc .nilFunc), .pv false (.sc (.pointer none)), .pv false (.sc (.int .i32 0)), .pv false (.sc (.int .i32 0))]⟩),
  (143, ⟨1, 8, .other, .pv false (.sc (.pointer none))⟩)]
theorem look_all {α : Type} {f : Nat → α → Bool} : ∀ {l : List (Nat × α)}, (l.all fun x => f x.1 x.2) = true → ∀ {i : Nat} {a : α}, Pm.look l i = some a → f i a = true := by
  intro l
  induction l with
  | nil => intro _ i a h; cases h
  | cons x l ih =>
    intro h i a hl
    simp only [List.all_cons, Bool.and_eq_true] at h
    simp only [Pm.look] at hl
    split at hl
    · rename_i e; cases hl; rw [e]; exact h.1
    · exact ih h.2 hl
theorem tab_ok : (tab.all fun x => tyOk Tryd.prog x.1 x.2) = true := by kernel_rfl
def tyT (t : Nat) : Option TI := Pm.look tab t
def sigs : List (Nat × Sig) := [(37, ⟨[], .tu [.d, .d, .d]⟩), (40, ⟨[], .tu [.d, .d]⟩), (39, ⟨[], .tu [.d, .d]⟩), (30, ⟨[], .tu [.d, .d, .d]⟩), (19, ⟨[], .own 5 1⟩), (32, ⟨[], .own 5 1⟩), (18, ⟨[], .own 5 1⟩), (10, ⟨[], .own 5 1⟩)]
def sgOf (f : FuncId) : Sig := (Pm.look sigs f).getD ⟨[], .d⟩
/-- The slices of bytes. -/
def bs0 : List Nat := [34]
attribute [simp] bs0
/-! what is known of the library's functions without their code -/
def cmpB : List Int → List Int → Int
  | [], [] => 0
  | [], _ :: _ => -1
  | _ :: _, [] => 1
  | a :: k, b :: l => if a < b then -1 else if b < a then 1 else cmpB k l
/-- Where a byte is first, or -1. -/
def idxB (c : Int) : List Int → Nat → Int
  | [], _ => -1
  | a :: l, i => if a = c then i else idxB c l (i + 1)
def byteOk (l : List Int) : Bool := l.all fun x => decide (0 ≤ x) && decide (x < 256)
def extBB (g : List Int → List Int → TV) : List TV → Hp → Option Res
  | [.pv _ (.sl r), .pv _ (.sl q)], [] => match bytesOf r, bytesOf q with
    | some a, some b => if byteOk a && byteOk b then some (g a b, []) else none
    | _, _ => none
  | _, _ => none
def extBC (g : List Int → Int → TV) : List TV → Hp → Option Res
  | [.pv _ (.sl r), .pv _ (.sc (.int .u8 c))], [] => match bytesOf r with
    | some a => if byteOk a && byteOk [c] then some (g a c, []) else none
    | none => none
  | _, _ => none
def atoiV (s : ByteArray) : TV := match Lib.atoiAll s.data.toList with
  | .ok v => .tu [(.pv false (.sc (.int .i64 v))), .pv false (.sc .nilIface)]
  | .range => .tu [(.pv false (.sc (.int .i64 (Lib.atoiSat s.data.toList)))), .er]
  | _ => .tu [(.pv false (.sc (.int .i64 0))), .er]
def extS (g : ByteArray → TV) : List TV → Hp → Option Res
  | [.pv _ (.sc (.string s))], [] => if s.size ≤ 281474976710656 then some (g s, []) else none
  | _, _ => none
def isExt (f : FuncId) : Bool := f == 60 || f == 64 || f == 41
noncomputable def ext0 (f : FuncId) (ts : List TV) (hp : Hp) : Option Res :=
  bif f == 60 then extBB (fun a b => (.pv false (.sc (.int .i64 (cmpB a b))))) ts hp else
  bif f == 64 then extBC (fun a c => (.pv false (.sc (.int .i64 (idxB c a 0))))) ts hp else
  bif f == 41 then extS atoiV ts hp else none
theorem ext0_none {f : FuncId} (h : isExt f = false) (ts : List TV) (hp : Hp) : ext0 f ts hp = none := by
  simp only [isExt, Bool.or_eq_false_iff] at h
  simp [ext0, h]
/-- What the program's variables hold. -/
def gw0 (w : World) : Prop := (∃ t a, w.var? Tryd.prog "strconv.ErrSyntax" = some #[.iface t a]) ∧ ∃ t a, w.var? Tryd.prog "strconv.ErrRange" = some #[.iface t a]
/-- The program without them. -/
noncomputable def Cb : Cfg := ⟨Tryd.prog, tyT, sgOf, fun _ _ _ => none, bs0, 0, fun _ => True⟩
noncomputable def C0 : Cfg := ⟨Tryd.prog, tyT, sgOf, ext0, bs0, Tryd.prog.globals.size, gw0⟩
@[simp] theorem Cb_bs : Cb.bs = bs0 := rfl
@[simp] theorem C0_bs : C0.bs = bs0 := rfl
@[simp] theorem Cb_T : Cb.T = tyT := rfl
@[simp] theorem Cb_sg (f : FuncId) : Cb.sg f = sgOf f := rfl
@[simp] theorem C0_T : C0.T = tyT := rfl
@[simp] theorem C0_sg (f : FuncId) : C0.sg f = sgOf f := rfl
theorem tabOk : TabOk C0 := fun t i h => tyOk_of (look_all (f := tyOk Tryd.prog) tab_ok h)
@[simp] theorem tyT1 : tyT 1 = some ⟨1, 8, .other, .pv false (.sc .nilFunc)⟩ := by kernel_rfl
@[simp] theorem tyT2 : tyT 2 = some ⟨1, 8, .int .i64, .pv false (.sc (.int .i64 0))⟩ := by kernel_rfl
@[simp] theorem tyT3 : tyT 3 = some ⟨1, 8, .int .i64, .pv false (.sc (.int .i64 0))⟩ := by kernel_rfl
@[simp] theorem tyT4 : tyT 4 = some ⟨1, 1, .bool, .pv false (.sc (.bool false))⟩ := by kernel_rfl
@[simp] theorem tyT5 : tyT 5 = some ⟨1, 1, .int .u8, .pv false (.sc (.int .u8 0))⟩ := by kernel_rfl
@[simp] theorem tyT6 : tyT 6 = some ⟨1, 1, .int .u8, .pv false (.sc (.int .u8 0))⟩ := by kernel_rfl
@[simp] theorem tyT7 : tyT 7 = some ⟨4, 24, .struct [(0, 2), (1, 3), (2, 4), (3, 6)], .ag [.pv false (.sc (.int .i64 0)), .pv false (.sc (.int .i64 0)), .pv false (.sc (.bool false)), .pv false (.sc (.int .u8 0))]⟩ := by kernel_rfl
@[simp] theorem tyT8 : tyT 8 = some ⟨4, 24, .struct [(0, 2), (1, 3), (2, 4), (3, 6)], .ag [.pv false (.sc (.int .i64 0)), .pv false (.sc (.int .i64 0)), .pv false (.sc (.bool false)), .pv false (.sc (.int .u8 0))]⟩ := by kernel_rfl
@[simp] theorem tyT9 : tyT 9 = some ⟨1, 16, .str, .pv false (.sc (.string ⟨#[]⟩))⟩ := by kernel_rfl
@[simp] theorem tyT10 : tyT 10 = some ⟨1, 16, .str, .pv false (.sc (.string ⟨#[]⟩))⟩ := by kernel_rfl
@[simp] theorem tyT11 : tyT 11 = some ⟨1, 16, .str, .pv false (.sc (.string ⟨#[]⟩))⟩ := by kernel_rfl
@[simp] theorem tyT12 : tyT 12 = some ⟨1, 8, .int .u64, .pv false (.sc (.int .u64 0))⟩ := by kernel_rfl
@[simp] theorem tyT13 : tyT 13 = some ⟨2, 24, .struct [(0, 9), (1, 12)], .ag [.pv false (.sc (.string ⟨#[]⟩)), .pv false (.sc (.int .u64 0))]⟩ := by kernel_rfl
@[simp] theorem tyT14 : tyT 14 = some ⟨2, 24, .struct [(0, 9), (1, 12)], .ag [.pv false (.sc (.string ⟨#[]⟩)), .pv false (.sc (.int .u64 0))]⟩ := by kernel_rfl
@[simp] theorem tyT15 : tyT 15 = some ⟨1, 8, .ptr 132, .pv false (.sc (.pointer none))⟩ := by kernel_rfl
@[simp] theorem tyT16 : tyT 16 = some ⟨1, 8, .ptr 135, .pv false (.sc (.pointer none))⟩ := by kernel_rfl
@[simp] theorem tyT17 : tyT 17 = some ⟨1, 8, .ptr 142, .pv false (.sc (.pointer none))⟩ := by kernel_rfl
@[simp] theorem tyT18 : tyT 18 = some ⟨1, 8, .struct [(0, 17)], .ag [.pv false (.sc (.pointer none))]⟩ := by kernel_rfl
@[simp] theorem tyT19 : tyT 19 = some ⟨1, 8, .struct [(0, 17)], .ag [.pv false (.sc (.pointer none))]⟩ := by kernel_rfl
@[simp] theorem tyT20 : tyT 20 = some ⟨1, 16, .ifc, .pv false (.sc .nilIface)⟩ := by kernel_rfl
@[simp] theorem tyT21 : tyT 21 = some ⟨1, 4, .int .i32, .pv false (.sc (.int .i32 0))⟩ := by kernel_rfl
@[simp] theorem tyT22 : tyT 22 = some ⟨1, 24, .slice 45, .nl⟩ := by kernel_rfl
@[simp] theorem tyT23 : tyT 23 = some ⟨2, 32, .struct [(0, 22), (1, 3)], .ag [.nl, .pv false (.sc (.int .i64 0))]⟩ := by kernel_rfl
@[simp] theorem tyT24 : tyT 24 = some ⟨2, 32, .struct [(0, 22), (1, 3)], .ag [.nl, .pv false (.sc (.int .i64 0))]⟩ := by kernel_rfl
@[simp] theorem tyT25 : tyT 25 = some ⟨1, 8, .other, .pv false (.sc .nilFunc)⟩ := by kernel_rfl
@[simp] theorem tyT26 : tyT 26 = some ⟨1, 8, .other, .pv false (.sc .nilFunc)⟩ := by kernel_rfl
@[simp] theorem tyT27 : tyT 27 = some ⟨1, 24, .slice 50, .nl⟩ := by kernel_rfl
@[simp] theorem tyT28 : tyT 28 = some ⟨2, 32, .struct [(0, 27), (1, 3)], .ag [.nl, .pv false (.sc (.int .i64 0))]⟩ := by kernel_rfl
@[simp] theorem tyT29 : tyT 29 = some ⟨2, 32, .struct [(0, 27), (1, 3)], .ag [.nl, .pv false (.sc (.int .i64 0))]⟩ := by kernel_rfl
@[simp] theorem tyT30 : tyT 30 = some ⟨1, 8, .other, .pv false (.sc .nilFunc)⟩ := by kernel_rfl
@[simp] theorem tyT31 : tyT 31 = some ⟨1, 8, .other, .pv false (.sc .nilFunc)⟩ := by kernel_rfl
@[simp] theorem tyT32 : tyT 32 = some ⟨1, 8, .other, .pv false (.sc .nilFunc)⟩ := by kernel_rfl
@[simp] theorem tyT33 : tyT 33 = some ⟨1, 8, .other, .pv false (.sc .nilFunc)⟩ := by kernel_rfl
@[simp] theorem tyT34 : tyT 34 = some ⟨1, 24, .slice 5, .nl⟩ := by kernel_rfl
@[simp] theorem tyT35 : tyT 35 = some ⟨1, 8, .other, .pv false (.sc .nilFunc)⟩ := by kernel_rfl
@[simp] theorem tyT36 : tyT 36 = some ⟨1, 8, .other, .pv false (.sc .nilFunc)⟩ := by kernel_rfl
@[simp] theorem tyT37 : tyT 37 = some ⟨1, 8, .other, .pv false (.sc .nilFunc)⟩ := by kernel_rfl
@[simp] theorem tyT38 : tyT 38 = some ⟨1, 8, .other, .pv false (.sc .nilFunc)⟩ := by kernel_rfl
@[simp] theorem tyT39 : tyT 39 = some ⟨1, 8, .other, .pv false (.sc .nilFunc)⟩ := by kernel_rfl
@[simp] theorem tyT40 : tyT 40 = some ⟨1, 24, .slice 34, .nl⟩ := by kernel_rfl
@[simp] theorem tyT41 : tyT 41 = some ⟨1, 24, .slice 43, .nl⟩ := by kernel_rfl
@[simp] theorem tyT42 : tyT 42 = some ⟨5, 88, .struct [(0, 3), (1, 3), (2, 34), (3, 40), (4, 41)], .ag [.pv false (.sc (.int .i64 0)), .pv false (.sc (.int .i64 0)), .nl, .nl, .nl]⟩ := by kernel_rfl
@[simp] theorem tyT43 : tyT 43 = some ⟨5, 88, .struct [(0, 3), (1, 3), (2, 34), (3, 40), (4, 41)], .ag [.pv false (.sc (.int .i64 0)), .pv false (.sc (.int .i64 0)), .nl, .nl, .nl]⟩ := by kernel_rfl
@[simp] theorem tyT44 : tyT 44 = some ⟨9, 152, .struct [(0, 3), (1, 34), (2, 3), (3, 43), (8, 40)], .ag [.pv false (.sc (.int .i64 0)), .nl, .pv false (.sc (.int .i64 0)), .pv false (.sc (.int .i64 0)), .pv false (.sc (.int .i64 0)), .nl, .nl, .nl, .nl]⟩ := by kernel_rfl
@[simp] theorem tyT45 : tyT 45 = some ⟨9, 152, .struct [(0, 3), (1, 34), (2, 3), (3, 43), (8, 40)], .ag [.pv false (.sc (.int .i64 0)), .nl, .pv false (.sc (.int .i64 0)), .pv false (.sc (.int .i64 0)), .pv false (.sc (.int .i64 0)), .nl, .nl, .nl, .nl]⟩ := by kernel_rfl
@[simp] theorem tyT46 : tyT 46 = some ⟨1, 24, .slice 48, .nl⟩ := by kernel_rfl
@[simp] theorem tyT47 : tyT 47 = some ⟨5, 88, .struct [(0, 3), (1, 3), (2, 34), (3, 40), (4, 46)], .ag [.pv false (.sc (.int .i64 0)), .pv false (.sc (.int .i64 0)), .nl, .nl, .nl]⟩ := by kernel_rfl
@[simp] theorem tyT48 : tyT 48 = some ⟨5, 88, .struct [(0, 3), (1, 3), (2, 34), (3, 40), (4, 46)], .ag [.pv false (.sc (.int .i64 0)), .pv false (.sc (.int .i64 0)), .nl, .nl, .nl]⟩ := by kernel_rfl
@[simp] theorem tyT49 : tyT 49 = some ⟨9, 152, .struct [(0, 3), (1, 34), (2, 3), (3, 48), (8, 40)], .ag [.pv false (.sc (.int .i64 0)), .nl, .pv false (.sc (.int .i64 0)), .pv false (.sc (.int .i64 0)), .pv false (.sc (.int .i64 0)), .nl, .nl, .nl, .nl]⟩ := by kernel_rfl
@[simp] theorem tyT50 : tyT 50 = some ⟨9, 152, .struct [(0, 3), (1, 34), (2, 3), (3, 48), (8, 40)], .ag [.pv false (.sc (.int .i64 0)), .nl, .pv false (.sc (.int .i64 0)), .pv false (.sc (.int .i64 0)), .pv false (.sc (.int .i64 0)), .nl, .nl, .nl, .nl]⟩ := by kernel_rfl
@[simp] theorem tyT51 : tyT 51 = some ⟨1, 8, .other, .pv false (.sc .nilFunc)⟩ := by kernel_rfl
@[simp] theorem tyT52 : tyT 52 = some ⟨1, 8, .other, .pv false (.sc .nilFunc)⟩ := by kernel_rfl
@[simp] theorem tyT53 : tyT 53 = some ⟨1, 8, .other, .pv false (.sc .nilFunc)⟩ := by kernel_rfl
@[simp] theorem tyT54 : tyT 54 = some ⟨1, 8, .other, .pv false (.sc .nilFunc)⟩ := by kernel_rfl
@[simp] theorem tyT55 : tyT 55 = some ⟨1, 8, .other, .pv false (.sc .nilFunc)⟩ := by kernel_rfl
@[simp] theorem tyT56 : tyT 56 = some ⟨1, 8, .other, .pv false (.sc .nilFunc)⟩ := by kernel_rfl
@[simp] theorem tyT57 : tyT 57 = some ⟨1, 8, .other, .pv false (.sc .nilFunc)⟩ := by kernel_rfl
@[simp] theorem tyT58 : tyT 58 = some ⟨1, 8, .other, .pv false (.sc .nilFunc)⟩ := by kernel_rfl
@[simp] theorem tyT59 : tyT 59 = some ⟨1, 8, .other, .pv false (.sc .nilFunc)⟩ := by kernel_rfl
@[simp] theorem tyT60 : tyT 60 = some ⟨1, 8, .other, .pv false (.sc .nilFunc)⟩ := by kernel_rfl
@[simp] theorem tyT61 : tyT 61 = some ⟨1, 8, .other, .pv false (.sc .nilFunc)⟩ := by kernel_rfl
@[simp] theorem tyT62 : tyT 62 = some ⟨1, 8, .other, .pv false (.sc .nilFunc)⟩ := by kernel_rfl
@[simp] theorem tyT63 : tyT 63 = some ⟨1, 8, .other, .pv false (.sc .nilFunc)⟩ := by kernel_rfl
@[simp] theorem tyT65 : tyT 65 = some ⟨1, 8, .other, .pv false (.sc .nilFunc)⟩ := by kernel_rfl
@[simp] theorem tyT66 : tyT 66 = some ⟨1, 8, .other, .pv false (.sc .nilFunc)⟩ := by kernel_rfl
@[simp] theorem tyT67 : tyT 67 = some ⟨1, 24, .slice 9, .nl⟩ := by kernel_rfl
@[simp] theorem tyT68 : tyT 68 = some ⟨1, 8, .other, .pv false (.sc .nilFunc)⟩ := by kernel_rfl
@[simp] theorem tyT69 : tyT 69 = some ⟨1, 8, .other, .pv false (.sc .nilFunc)⟩ := by kernel_rfl
@[simp] theorem tyT70 : tyT 70 = some ⟨1, 8, .other, .pv false (.sc .nilFunc)⟩ := by kernel_rfl
@[simp] theorem tyT71 : tyT 71 = some ⟨1, 8, .other, .pv false (.sc .nilFunc)⟩ := by kernel_rfl
@[simp] theorem tyT72 : tyT 72 = some ⟨1, 8, .other, .pv false (.sc .nilFunc)⟩ := by kernel_rfl
@[simp] theorem tyT74 : tyT 74 = some ⟨1, 8, .other, .pv false (.sc .nilFunc)⟩ := by kernel_rfl
@[simp] theorem tyT75 : tyT 75 = some ⟨1, 16, .ifc, .pv false (.sc .nilIface)⟩ := by kernel_rfl
@[simp] theorem tyT76 : tyT 76 = some ⟨1, 16, .ifc, .pv false (.sc .nilIface)⟩ := by kernel_rfl
@[simp] theorem tyT78 : tyT 78 = some ⟨1, 8, .other, .pv false (.sc .nilFunc)⟩ := by kernel_rfl
@[simp] theorem tyT79 : tyT 79 = some ⟨1, 8, .other, .pv false (.sc .nilFunc)⟩ := by kernel_rfl
@[simp] theorem tyT80 : tyT 80 = some ⟨1, 8, .other, .pv false (.sc .nilFunc)⟩ := by kernel_rfl
@[simp] theorem tyT81 : tyT 81 = some ⟨1, 8, .other, .pv false (.sc .nilFunc)⟩ := by kernel_rfl
@[simp] theorem tyT82 : tyT 82 = some ⟨1, 8, .other, .pv false (.sc .nilFunc)⟩ := by kernel_rfl
@[simp] theorem tyT83 : tyT 83 = some ⟨1, 8, .other, .pv false (.sc .nilFunc)⟩ := by kernel_rfl
@[simp] theorem tyT84 : tyT 84 = some ⟨1, 8, .other, .pv false (.sc .nilFunc)⟩ := by kernel_rfl
@[simp] theorem tyT85 : tyT 85 = some ⟨1, 8, .other, .pv false (.sc .nilFunc)⟩ := by kernel_rfl
@[simp] theorem tyT86 : tyT 86 = some ⟨1, 8, .other, .pv false (.sc .nilFunc)⟩ := by kernel_rfl
@[simp] theorem tyT87 : tyT 87 = some ⟨1, 8, .other, .pv false (.sc .nilFunc)⟩ := by kernel_rfl
@[simp] theorem tyT88 : tyT 88 = some ⟨1, 8, .other, .pv false (.sc .nilFunc)⟩ := by kernel_rfl
@[simp] theorem tyT89 : tyT 89 = some ⟨1, 8, .other, .pv false (.sc .nilFunc)⟩ := by kernel_rfl
@[simp] theorem tyT90 : tyT 90 = some ⟨1, 8, .other, .pv false (.sc .nilFunc)⟩ := by kernel_rfl
@[simp] theorem tyT91 : tyT 91 = some ⟨1, 8, .other, .pv false (.sc .nilFunc)⟩ := by kernel_rfl
@[simp] theorem tyT92 : tyT 92 = some ⟨1, 8, .other, .pv false (.sc .nilFunc)⟩ := by kernel_rfl
@[simp] theorem tyT93 : tyT 93 = some ⟨1, 8, .int .u64, .pv false (.sc (.int .u64 0))⟩ := by kernel_rfl
@[simp] theorem tyT94 : tyT 94 = some ⟨1, 8, .int .i64, .pv false (.sc (.int .i64 0))⟩ := by kernel_rfl
@[simp] theorem tyT96 : tyT 96 = some ⟨1, 8, .other, .pv false (.sc .nilFunc)⟩ := by kernel_rfl
@[simp] theorem tyT97 : tyT 97 = some ⟨1, 8, .ptr 110, .pv false (.sc (.pointer none))⟩ := by kernel_rfl
@[simp] theorem tyT98 : tyT 98 = some ⟨1, 8, .other, .pv false (.sc .nilFunc)⟩ := by kernel_rfl
@[simp] theorem tyT99 : tyT 99 = some ⟨1, 8, .other, .pv false (.sc .nilFunc)⟩ := by kernel_rfl
@[simp] theorem tyT100 : tyT 100 = some ⟨1, 8, .other, .pv false (.sc .nilFunc)⟩ := by kernel_rfl
@[simp] theorem tyT101 : tyT 101 = some ⟨1, 8, .other, .pv false (.sc .nilFunc)⟩ := by kernel_rfl
@[simp] theorem tyT102 : tyT 102 = some ⟨1, 4, .int .u32, .pv false (.sc (.int .u32 0))⟩ := by kernel_rfl
@[simp] theorem tyT104 : tyT 104 = some ⟨1, 8, .other, .pv false (.sc .nilFunc)⟩ := by kernel_rfl
@[simp] theorem tyT105 : tyT 105 = some ⟨1, 8, .int .u64, .pv false (.sc (.int .u64 0))⟩ := by kernel_rfl
@[simp] theorem tyT107 : tyT 107 = some ⟨1, 8, .other, .pv false (.sc .nilFunc)⟩ := by kernel_rfl
@[simp] theorem tyT108 : tyT 108 = some ⟨1, 8, .other, .pv false (.sc .nilFunc)⟩ := by kernel_rfl
@[simp] theorem tyT109 : tyT 109 = some ⟨3, 48, .struct [(0, 9), (1, 9), (2, 76)], .ag [.pv false (.sc (.string ⟨#[]⟩)), .pv false (.sc (.string ⟨#[]⟩)), .pv false (.sc .nilIface)]⟩ := by kernel_rfl
@[simp] theorem tyT110 : tyT 110 = some ⟨3, 48, .struct [(0, 9), (1, 9), (2, 76)], .ag [.pv false (.sc (.string ⟨#[]⟩)), .pv false (.sc (.string ⟨#[]⟩)), .pv false (.sc .nilIface)]⟩ := by kernel_rfl
@[simp] theorem tyT111 : tyT 111 = some ⟨1, 8, .other, .pv false (.sc .nilFunc)⟩ := by kernel_rfl
@[simp] theorem tyT112 : tyT 112 = some ⟨24, 24, .arr 24 5, .ar (List.replicate 24 (.sc (.int .u8 0)))⟩ := by kernel_rfl
@[simp] theorem tyT113 : tyT 113 = some ⟨1, 8, .other, .pv false (.sc .nilFunc)⟩ := by kernel_rfl
@[simp] theorem tyT114 : tyT 114 = some ⟨1, 8, .other, .pv false (.sc .nilFunc)⟩ := by kernel_rfl
@[simp] theorem tyT116 : tyT 116 = some ⟨1, 8, .other, .pv false (.sc .nilFunc)⟩ := by kernel_rfl
@[simp] theorem tyT117 : tyT 117 = some ⟨1, 8, .other, .pv false (.sc .nilFunc)⟩ := by kernel_rfl
@[simp] theorem tyT118 : tyT 118 = some ⟨1, 8, .other, .pv false (.sc .nilFunc)⟩ := by kernel_rfl
@[simp] theorem tyT119 : tyT 119 = some ⟨1, 8, .ptr 5, .pv false (.sc (.pointer none))⟩ := by kernel_rfl
@[simp] theorem tyT120 : tyT 120 = some ⟨1, 8, .ptr 122, .pv false (.sc (.pointer none))⟩ := by kernel_rfl
@[simp] theorem tyT121 : tyT 121 = some ⟨1, 16, .struct [(0, 9)], .ag [.pv false (.sc (.string ⟨#[]⟩))]⟩ := by kernel_rfl
@[simp] theorem tyT122 : tyT 122 = some ⟨1, 16, .struct [(0, 9)], .ag [.pv false (.sc (.string ⟨#[]⟩))]⟩ := by kernel_rfl
@[simp] theorem tyT123 : tyT 123 = some ⟨1, 8, .other, .pv false (.sc .nilFunc)⟩ := by kernel_rfl
@[simp] theorem tyT124 : tyT 124 = some ⟨20, 160, .arr 20 105, .ar (List.replicate 20 (.sc (.int .u64 0)))⟩ := by kernel_rfl
@[simp] theorem tyT125 : tyT 125 = some ⟨65, 65, .arr 65 5, .ar (List.replicate 65 (.sc (.int .u8 0)))⟩ := by kernel_rfl
@[simp] theorem tyT126 : tyT 126 = some ⟨1, 8, .other, .pv false (.sc .nilFunc)⟩ := by kernel_rfl
@[simp] theorem tyT127 : tyT 127 = some ⟨1, 8, .other, .pv false (.sc .nilFunc)⟩ := by kernel_rfl
@[simp] theorem tyT128 : tyT 128 = some ⟨32, 32, .arr 32 5, .ar (List.replicate 32 (.sc (.int .u8 0)))⟩ := by kernel_rfl
@[simp] theorem tyT129 : tyT 129 = some ⟨64, 64, .arr 64 5, .ar (List.replicate 64 (.sc (.int .u8 0)))⟩ := by kernel_rfl
@[simp] theorem tyT130 : tyT 130 = some ⟨1, 8, .other, .pv false (.sc .nilFunc)⟩ := by kernel_rfl
@[simp] theorem tyT131 : tyT 131 = some ⟨4, 40, .struct [(0, 17), (1, 17), (2, 17), (3, 9)], .ag [.pv false (.sc (.pointer none)), .pv false (.sc (.pointer none)), .pv false (.sc (.pointer none)), .pv false (.sc (.string ⟨#[]⟩))]⟩ := by kernel_rfl
@[simp] theorem tyT132 : tyT 132 = some ⟨4, 40, .struct [(0, 17), (1, 17), (2, 17), (3, 9)], .ag [.pv false (.sc (.pointer none)), .pv false (.sc (.pointer none)), .pv false (.sc (.pointer none)), .pv false (.sc (.string ⟨#[]⟩))]⟩ := by kernel_rfl
@[simp] theorem tyT133 : tyT 133 = some ⟨0, 0, .arr 0 16, .ar []⟩ := by kernel_rfl
@[simp] theorem tyT136 : tyT 136 = some ⟨1, 1, .int .u8, .pv false (.sc (.int .u8 0))⟩ := by kernel_rfl
@[simp] theorem tyT137 : tyT 137 = some ⟨1, 1, .int .u8, .pv false (.sc (.int .u8 0))⟩ := by kernel_rfl
@[simp] theorem tyT138 : tyT 138 = some ⟨1, 8, .other, .pv false (.sc .nilFunc)⟩ := by kernel_rfl
@[simp] theorem tyT139 : tyT 139 = some ⟨1, 4, .int .i32, .pv false (.sc (.int .i32 0))⟩ := by kernel_rfl
@[simp] theorem tyT140 : tyT 140 = some ⟨1, 4, .int .i32, .pv false (.sc (.int .i32 0))⟩ := by kernel_rfl
@[simp] theorem tyT141 : tyT 141 = some ⟨11, 48, .struct [(0, 12), (1, 12), (2, 102), (3, 136), (4, 5), (5, 5), (6, 137), (7, 138), (8, 119), (9, 139), (10, 140)], .ag [.pv false (.sc (.int .u64 0)), .pv false (.sc (.int .u64 0)), .pv false (.sc (.int .u32 0)), .pv false (.sc (.int .u8 0)), .pv false (.sc (.int .u8 0)), .pv false (.sc (.int .u8 0)), .pv false (.sc (.int .u8 0)), .pv false (.sc .nilFunc), .pv false (.sc (.pointer none)), .pv false (.sc (.int .i32 0)), .pv false (.sc (.int .i32 0))]⟩ := by kernel_rfl
@[simp] theorem tyT142 : tyT 142 = some ⟨11, 48, .struct [(0, 12), (1, 12), (2, 102), (3, 136), (4, 5), (5, 5), (6, 137), (7, 138), (8, 119), (9, 139), (10, 140)], .ag [.pv false (.sc (.int .u64 0)), .pv false (.sc (.int .u64 0)), .pv false (.sc (.int .u32 0)), .pv false (.sc (.int .u8 0)), .pv false (.sc (.int .u8 0)), .pv false (.sc (.int .u8 0)), .pv false (.sc (.int .u8 0)), .pv false (.sc .nilFunc), .pv false (.sc (.pointer none)), .pv false (.sc (.int .i32 0)), .pv false (.sc (.int .i32 0))]⟩ := by kernel_rfl
@[simp] theorem tyT143 : tyT 143 = some ⟨1, 8, .other, .pv false (.sc (.pointer none))⟩ := by kernel_rfl
@[simp] theorem sg0 : sgOf 0 = ⟨[], .d⟩ := rfl
@[simp] theorem sg1 : sgOf 1 = ⟨[], .d⟩ := rfl
@[simp] theorem sg2 : sgOf 2 = ⟨[], .d⟩ := rfl
@[simp] theorem sg3 : sgOf 3 = ⟨[], .d⟩ := rfl
@[simp] theorem sg4 : sgOf 4 = ⟨[], .d⟩ := rfl
@[simp] theorem sg5 : sgOf 5 = ⟨[], .d⟩ := rfl
@[simp] theorem sg6 : sgOf 6 = ⟨[], .d⟩ := rfl
@[simp] theorem sg7 : sgOf 7 = ⟨[], .d⟩ := rfl
@[simp] theorem sg8 : sgOf 8 = ⟨[], .d⟩ := rfl
@[simp] theorem sg9 : sgOf 9 = ⟨[], .d⟩ := rfl
@[simp] theorem sg10 : sgOf 10 = ⟨[], .own 5 1⟩ := rfl
@[simp] theorem sg11 : sgOf 11 = ⟨[], .d⟩ := rfl
@[simp] theorem sg12 : sgOf 12 = ⟨[], .d⟩ := rfl
@[simp] theorem sg13 : sgOf 13 = ⟨[], .d⟩ := rfl
@[simp] theorem sg14 : sgOf 14 = ⟨[], .d⟩ := rfl
@[simp] theorem sg15 : sgOf 15 = ⟨[], .d⟩ := rfl
@[simp] theorem sg16 : sgOf 16 = ⟨[], .d⟩ := rfl
@[simp] theorem sg17 : sgOf 17 = ⟨[], .d⟩ := rfl
@[simp] theorem sg18 : sgOf 18 = ⟨[], .own 5 1⟩ := rfl
@[simp] theorem sg19 : sgOf 19 = ⟨[], .own 5 1⟩ := rfl
@[simp] theorem sg20 : sgOf 20 = ⟨[], .d⟩ := rfl
@[simp] theorem sg21 : sgOf 21 = ⟨[], .d⟩ := rfl
@[simp] theorem sg22 : sgOf 22 = ⟨[], .d⟩ := rfl
@[simp] theorem sg23 : sgOf 23 = ⟨[], .d⟩ := rfl
@[simp] theorem sg24 : sgOf 24 = ⟨[], .d⟩ := rfl
@[simp] theorem sg25 : sgOf 25 = ⟨[], .d⟩ := rfl
@[simp] theorem sg26 : sgOf 26 = ⟨[], .d⟩ := rfl
@[simp] theorem sg27 : sgOf 27 = ⟨[], .d⟩ := rfl
@[simp] theorem sg28 : sgOf 28 = ⟨[], .d⟩ := rfl
@[simp] theorem sg29 : sgOf 29 = ⟨[], .d⟩ := rfl
@[simp] theorem sg30 : sgOf 30 = ⟨[], .tu [.d, .d, .d]⟩ := rfl
@[simp] theorem sg31 : sgOf 31 = ⟨[], .d⟩ := rfl
@[simp] theorem sg32 : sgOf 32 = ⟨[], .own 5 1⟩ := rfl
@[simp] theorem sg33 : sgOf 33 = ⟨[], .d⟩ := rfl
@[simp] theorem sg34 : sgOf 34 = ⟨[], .d⟩ := rfl
@[simp] theorem sg35 : sgOf 35 = ⟨[], .d⟩ := rfl
@[simp] theorem sg36 : sgOf 36 = ⟨[], .d⟩ := rfl
@[simp] theorem sg37 : sgOf 37 = ⟨[], .tu [.d, .d, .d]⟩ := rfl
@[simp] theorem sg38 : sgOf 38 = ⟨[], .d⟩ := rfl
@[simp] theorem sg39 : sgOf 39 = ⟨[], .tu [.d, .d]⟩ := rfl
@[simp] theorem sg40 : sgOf 40 = ⟨[], .tu [.d, .d]⟩ := rfl
@[simp] theorem sg41 : sgOf 41 = ⟨[], .d⟩ := rfl
@[simp] theorem sg42 : sgOf 42 = ⟨[], .d⟩ := rfl
@[simp] theorem sg43 : sgOf 43 = ⟨[], .d⟩ := rfl
@[simp] theorem sg44 : sgOf 44 = ⟨[], .d⟩ := rfl
@[simp] theorem sg45 : sgOf 45 = ⟨[], .d⟩ := rfl
@[simp] theorem sg46 : sgOf 46 = ⟨[], .d⟩ := rfl
@[simp] theorem sg47 : sgOf 47 = ⟨[], .d⟩ := rfl
@[simp] theorem sg48 : sgOf 48 = ⟨[], .d⟩ := rfl
@[simp] theorem sg49 : sgOf 49 = ⟨[], .d⟩ := rfl
@[simp] theorem sg50 : sgOf 50 = ⟨[], .d⟩ := rfl
@[simp] theorem sg51 : sgOf 51 = ⟨[], .d⟩ := rfl
@[simp] theorem sg52 : sgOf 52 = ⟨[], .d⟩ := rfl
@[simp] theorem sg53 : sgOf 53 = ⟨[], .d⟩ := rfl
@[simp] theorem sg54 : sgOf 54 = ⟨[], .d⟩ := rfl
@[simp] theorem sg55 : sgOf 55 = ⟨[], .d⟩ := rfl
@[simp] theorem sg56 : sgOf 56 = ⟨[], .d⟩ := rfl
@[simp] theorem sg57 : sgOf 57 = ⟨[], .d⟩ := rfl
@[simp] theorem sg58 : sgOf 58 = ⟨[], .d⟩ := rfl
@[simp] theorem sg59 : sgOf 59 = ⟨[], .d⟩ := rfl
@[simp] theorem sg60 : sgOf 60 = ⟨[], .d⟩ := rfl
@[simp] theorem sg61 : sgOf 61 = ⟨[], .d⟩ := rfl
@[simp] theorem sg62 : sgOf 62 = ⟨[], .d⟩ := rfl
@[simp] theorem sg63 : sgOf 63 = ⟨[], .d⟩ := rfl
@[simp] theorem sg64 : sgOf 64 = ⟨[], .d⟩ := rfl
@[simp] theorem sg65 : sgOf 65 = ⟨[], .d⟩ := rfl
@[simp] theorem sg66 : sgOf 66 = ⟨[], .d⟩ := rfl
@[simp] theorem sg67 : sgOf 67 = ⟨[], .d⟩ := rfl
@[simp] theorem sg68 : sgOf 68 = ⟨[], .d⟩ := rfl
@[simp] theorem sg69 : sgOf 69 = ⟨[], .d⟩ := rfl
@[simp] theorem sg70 : sgOf 70 = ⟨[], .d⟩ := rfl
@[simp] theorem sg71 : sgOf 71 = ⟨[], .d⟩ := rfl
@[simp] theorem sg72 : sgOf 72 = ⟨[], .d⟩ := rfl
@[simp] theorem sg73 : sgOf 73 = ⟨[], .d⟩ := rfl
@[simp] theorem sg74 : sgOf 74 = ⟨[], .d⟩ := rfl
@[simp] theorem sg75 : sgOf 75 = ⟨[], .d⟩ := rfl
@[simp] theorem sg76 : sgOf 76 = ⟨[], .d⟩ := rfl
@[simp] theorem sg77 : sgOf 77 = ⟨[], .d⟩ := rfl
@[simp] theorem sg78 : sgOf 78 = ⟨[], .d⟩ := rfl
@[simp] theorem sg79 : sgOf 79 = ⟨[], .d⟩ := rfl
@[simp] theorem sg80 : sgOf 80 = ⟨[], .d⟩ := rfl
@[simp] theorem sg81 : sgOf 81 = ⟨[], .d⟩ := rfl
@[simp] theorem sg82 : sgOf 82 = ⟨[], .d⟩ := rfl
@[simp] theorem sg83 : sgOf 83 = ⟨[], .d⟩ := rfl
@[simp] theorem sg84 : sgOf 84 = ⟨[], .d⟩ := rfl
@[simp] theorem sg85 : sgOf 85 = ⟨[], .d⟩ := rfl
@[simp] theorem sg86 : sgOf 86 = ⟨[], .d⟩ := rfl
@[simp] theorem sg87 : sgOf 87 = ⟨[], .d⟩ := rfl
@[simp] theorem sg88 : sgOf 88 = ⟨[], .d⟩ := rfl
@[simp] theorem sg89 : sgOf 89 = ⟨[], .d⟩ := rfl
@[simp] theorem sg90 : sgOf 90 = ⟨[], .d⟩ := rfl
@[simp] theorem sg91 : sgOf 91 = ⟨[], .d⟩ := rfl
@[simp] theorem sg92 : sgOf 92 = ⟨[], .d⟩ := rfl
@[simp] theorem sg93 : sgOf 93 = ⟨[], .d⟩ := rfl
@[simp] theorem sg94 : sgOf 94 = ⟨[], .d⟩ := rfl
@[simp] theorem sg95 : sgOf 95 = ⟨[], .d⟩ := rfl
@[simp] theorem sg96 : sgOf 96 = ⟨[], .d⟩ := rfl
@[simp] theorem sg97 : sgOf 97 = ⟨[], .d⟩ := rfl
@[simp] theorem sg98 : sgOf 98 = ⟨[], .d⟩ := rfl
@[simp] theorem sg99 : sgOf 99 = ⟨[], .d⟩ := rfl
@[simp] theorem sg100 : sgOf 100 = ⟨[], .d⟩ := rfl
@[simp] theorem sg101 : sgOf 101 = ⟨[], .d⟩ := rfl
@[simp] theorem sg102 : sgOf 102 = ⟨[], .d⟩ := rfl
@[simp] theorem sg103 : sgOf 103 = ⟨[], .d⟩ := rfl
@[simp] theorem sg104 : sgOf 104 = ⟨[], .d⟩ := rfl
@[simp] theorem sg105 : sgOf 105 = ⟨[], .d⟩ := rfl
@[simp] theorem sg106 : sgOf 106 = ⟨[], .d⟩ := rfl
@[simp] theorem sg107 : sgOf 107 = ⟨[], .d⟩ := rfl
@[simp] theorem sg108 : sgOf 108 = ⟨[], .d⟩ := rfl
@[simp] theorem sg109 : sgOf 109 = ⟨[], .d⟩ := rfl
@[simp] theorem sg110 : sgOf 110 = ⟨[], .d⟩ := rfl
@[simp] theorem sg111 : sgOf 111 = ⟨[], .d⟩ := rfl
@[simp] theorem sg112 : sgOf 112 = ⟨[], .d⟩ := rfl
@[simp] theorem sg113 : sgOf 113 = ⟨[], .d⟩ := rfl
@[simp] theorem sg114 : sgOf 114 = ⟨[], .d⟩ := rfl
@[simp] theorem sg115 : sgOf 115 = ⟨[], .d⟩ := rfl
@[simp] theorem sg116 : sgOf 116 = ⟨[], .d⟩ := rfl
@[simp] theorem sg117 : sgOf 117 = ⟨[], .d⟩ := rfl
@[simp] theorem sg118 : sgOf 118 = ⟨[], .d⟩ := rfl
@[simp] theorem sg119 : sgOf 119 = ⟨[], .d⟩ := rfl
@[simp] theorem sg120 : sgOf 120 = ⟨[], .d⟩ := rfl
@[simp] theorem sg121 : sgOf 121 = ⟨[], .d⟩ := rfl
@[simp] theorem sg122 : sgOf 122 = ⟨[], .d⟩ := rfl
theorem mixed : Tryd.prog.follows .mixedOrders = true := by kernel_rfl
theorem names_ok : (Tryd.prog.funcs.all fun fn => !(fn.name == "runtime.NumGoroutine")) = true := by kernel_rfl
theorem dsts_ok : (Tryd.prog.funcs.all fun fn => match fn.body with | some c => codeOk fn.ntmps c | none => true) = true := by kernel_rfl
theorem plan3_10 : plan bs0 ((opsOf 10 (code Tryd.f3)).getD #[]) = some (.lt 0 (.lt 1 (.hv 2 [0] (.hv 3 [] (.lt 4 (.fin)) (.no)) (.no)))) := by kernel_rfl
theorem plan10_10 : plan bs0 ((opsOf 10 (code Tryd.f10)).getD #[]) = some (.lt 0 (.lt 1 (.lt 2 (.lt 7 (.lt 8 (.hv 3 [8, 7, 0] (.hv 4 [8, 7] (.hv 5 [8, 7, 2, 1, 0] (.hv 6 [8, 7] (.hv 9 [] (.lt 10 (.fin)) (.no)) (.no)) (.no)) (.hv 5 [8, 7, 2, 1, 0] (.hv 4 [8, 7] (.hv 6 [8, 7] (.hv 9 [] (.lt 10 (.fin)) (.no)) (.no)) (.no)) (.no))) (.hv 5 [8, 7, 2, 1, 0] (.hv 3 [8, 7, 0] (.hv 4 [8, 7] (.hv 6 [8, 7] (.hv 9 [] (.lt 10 (.fin)) (.no)) (.no)) (.no)) (.no)) (.no)))))))) := by kernel_rfl
theorem plan10_12 : plan bs0 ((opsOf 12 (code Tryd.f10)).getD #[]) = some (.lt 0 (.lt 3 (.lt 4 (.hv 1 [4, 3, 0] (.hv 2 [4, 3] (.hv 5 [] (.hv 6 [] (.lt 7 (.fin)) (.no)) (.no)) (.no)) (.no))))) := by kernel_rfl
theorem plan10_14 : plan bs0 ((opsOf 14 (code Tryd.f10)).getD #[]) = some (.lt 0 (.lt 2 (.lt 3 (.hv 1 [3, 2] (.hv 4 [] (.hv 5 [] (.hv 6 [3, 2, 0] (.hv 7 [] (.lt 8 (.fin)) (.no)) (.no)) (.hv 6 [3, 2, 0] (.hv 5 [] (.hv 7 [] (.lt 8 (.fin)) (.no)) (.no)) (.no))) (.hv 6 [3, 2, 0] (.hv 4 [] (.hv 5 [] (.hv 7 [] (.lt 8 (.fin)) (.no)) (.no)) (.no)) (.no))) (.hv 6 [3, 2, 0] (.hv 1 [3, 2] (.hv 4 [] (.hv 5 [] (.hv 7 [] (.lt 8 (.fin)) (.no)) (.no)) (.no)) (.no)) (.no)))))) := by kernel_rfl
theorem plan13_6 : plan bs0 ((opsOf 6 (code Tryd.f13)).getD #[]) = some (.lt 0 (.lt 1 (.lt 2 (.lt 3 (.lt 4 (.lt 5 (.lt 6 (.lt 7 (.hv 8 [] (.lt 9 (.fin)) (.no)))))))))) := by kernel_rfl
theorem plan15_1 : plan bs0 ((opsOf 1 (code Tryd.f15)).getD #[]) = some (.lt 0 (.hv 1 [] (.lt 2 (.lt 3 (.lt 4 (.lt 5 (.lt 6 (.lt 7 (.lt 8 (.fin)))))))) (.no))) := by kernel_rfl
theorem plan24_1 : plan bs0 ((opsOf 1 (code Tryd.f24)).getD #[]) = some (.lt 0 (.hv 1 [0] (.hv 2 [0] (.hv 3 [] (.lt 4 (.lt 5 (.lt 6 (.lt 7 (.lt 8 (.lt 9 (.lt 10 (.fin)))))))) (.no)) (.no)) (.no))) := by kernel_rfl
theorem plan24_6 : plan bs0 ((opsOf 6 (code Tryd.f24)).getD #[]) = some (.lt 0 (.hv 1 [0] (.hv 2 [0] (.hv 3 [] (.lt 4 (.lt 5 (.lt 6 (.lt 7 (.lt 8 (.fin)))))) (.no)) (.no)) (.no))) := by kernel_rfl
theorem plan24_7 : plan bs0 ((opsOf 7 (code Tryd.f24)).getD #[]) = some (.lt 0 (.hv 1 [0] (.hv 2 [0] (.hv 3 [] (.lt 4 (.lt 5 (.lt 6 (.lt 7 (.lt 8 (.fin)))))) (.no)) (.no)) (.no))) := by kernel_rfl
theorem plan24_8 : plan bs0 ((opsOf 8 (code Tryd.f24)).getD #[]) = some (.lt 0 (.hv 1 [0] (.hv 2 [0] (.hv 3 [] (.lt 4 (.lt 5 (.lt 6 (.lt 7 (.lt 8 (.fin)))))) (.no)) (.no)) (.no))) := by kernel_rfl
theorem plan24_11 : plan bs0 ((opsOf 11 (code Tryd.f24)).getD #[]) = some (.lt 0 (.lt 1 (.hv 2 [] (.lt 3 (.lt 4 (.lt 5 (.lt 6 (.lt 7 (.fin)))))) (.no)))) := by kernel_rfl
theorem plan24_12 : plan bs0 ((opsOf 12 (code Tryd.f24)).getD #[]) = some (.lt 0 (.lt 1 (.lt 2 (.lt 3 (.lt 4 (.lt 5 (.lt 6 (.hv 7 [] (.lt 8 (.lt 9 (.lt 10 (.lt 12 (.lt 13 (.hv 11 [13, 12] (.lt 14 (.lt 15 (.lt 16 (.fin)))) (.no))))))) (.no))))))))) := by kernel_rfl
theorem plan30_8 : plan bs0 ((opsOf 8 (code Tryd.f30)).getD #[]) = some (.lt 0 (.lt 1 (.lt 2 (.lt 3 (.lt 4 (.fin)))))) := by kernel_rfl
theorem plan30_16 : plan bs0 ((opsOf 16 (code Tryd.f30)).getD #[]) = some (.lt 0 (.lt 1 (.lt 2 (.lt 3 (.lt 4 (.lt 5 (.lt 6 (.fin)))))))) := by kernel_rfl
theorem plan30_24 : plan bs0 ((opsOf 24 (code Tryd.f30)).getD #[]) = some (.lt 0 (.lt 1 (.lt 2 (.lt 3 (.lt 4 (.lt 5 (.lt 6 (.fin)))))))) := by kernel_rfl
theorem plan31_29 : plan bs0 ((opsOf 29 (code Tryd.f31)).getD #[]) = some (.lt 0 (.lt 1 (.lt 2 (.lt 3 (.lt 4 (.lt 5 (.lt 6 (.lt 7 (.lt 8 (.hv 9 [] (.lt 10 (.lt 11 (.lt 12 (.lt 13 (.lt 14 (.lt 15 (.lt 16 (.lt 17 (.lt 18 (.lt 19 (.lt 20 (.lt 21 (.lt 22 (.lt 23 (.lt 24 (.lt 25 (.lt 26 (.lt 27 (.lt 28 (.lt 29 (.lt 30 (.lt 31 (.fin))))))))))))))))))))))) (.no))))))))))) := by kernel_rfl
theorem plan37_3 : plan bs0 ((opsOf 3 (code Tryd.f37)).getD #[]) = some (.lt 0 (.lt 1 (.lt 2 (.lt 3 (.lt 4 (.lt 5 (.lt 6 (.lt 7 (.lt 8 (.lt 9 (.lt 10 (.lt 11 (.fin))))))))))))) := by kernel_rfl
theorem plan43_3 : plan bs0 ((opsOf 3 (code Tryd.f43)).getD #[]) = some (.lt 0 (.lt 1 (.lt 2 (.lt 3 (.lt 4 (.lt 5 (.lt 6 (.lt 7 (.lt 8 (.lt 9 (.lt 10 (.lt 11 (.lt 12 (.lt 13 (.lt 14 (.lt 15 (.lt 16 (.lt 17 (.lt 18 (.fin)))))))))))))))))))) := by kernel_rfl
theorem plan45_6 : plan bs0 ((opsOf 6 (code Tryd.f45)).getD #[]) = some (.lt 0 (.lt 1 (.lt 2 (.lt 3 (.lt 4 (.lt 5 (.lt 6 (.lt 7 (.lt 8 (.fin)))))))))) := by kernel_rfl
theorem plan47_6 : plan bs0 ((opsOf 6 (code Tryd.f47)).getD #[]) = some (.lt 0 (.lt 1 (.lt 2 (.lt 3 (.lt 4 (.lt 5 (.lt 6 (.lt 7 (.hv 8 [] (.lt 9 (.fin)) (.no)))))))))) := by kernel_rfl
theorem plan63_6 : plan bs0 ((opsOf 6 (code Tryd.f63)).getD #[]) = some (.lt 0 (.lt 1 (.lt 2 (.lt 3 (.lt 4 (.lt 5 (.lt 6 (.lt 7 (.hv 8 [] (.lt 9 (.fin)) (.no)))))))))) := by kernel_rfl
theorem gl9 : globs Tryd.f9 = [0, 1, 11, 5, 15, 25, 4] := by kernel_rfl
theorem gl10 : globs Tryd.f10 = [0, 1, 19, 4, 24, 5, 51, 3, 64, 2] := by kernel_rfl
theorem gl11 : globs Tryd.f11 = [0, 4, 11, 3, 2] := by kernel_rfl
theorem gl13 : globs Tryd.f13 = [1, 0, 10, 5, 14, 26, 4] := by kernel_rfl
theorem gl18 : globs Tryd.f18 = [0, 1, 8, 9, 13, 21, 26, 31, 37, 3, 6, 44, 48, 5, 53, 4, 2] := by kernel_rfl
theorem gl29 : globs Tryd.f29 = [0, 1, 11, 5, 15, 25, 4] := by kernel_rfl
theorem gl30 : globs Tryd.f30 = [5, 0, 20, 27, 6, 33, 7, 47, 8, 55, 76, 94, 9, 98, 112, 2, 3, 4] := by kernel_rfl
theorem gl31 : globs Tryd.f31 = [0, 2, 1, 15, 3, 66, 68, 69, 73, 82, 84, 89, 91, 96, 98, 112, 7, 117, 151, 162, 6] := by kernel_rfl
theorem gl32 : globs Tryd.f32 = [0, 4, 9, 23, 3, 2] := by kernel_rfl
theorem gl33 : globs Tryd.f33 = [0, 4, 11, 3, 2] := by kernel_rfl
theorem gl35 : globs Tryd.f35 = [0, 4, 11, 3, 2] := by kernel_rfl
theorem gl36 : globs Tryd.f36 = [0, 8, 7, 9, 5, 1, 16, 4] := by kernel_rfl
theorem gl38 : globs Tryd.f38 = [0, 7, 6, 8, 5, 4, 16, 2] := by kernel_rfl
theorem gl43 : globs Tryd.f43 = [1, 0, 3, 12, 2, 29, 30, 8, 7, 6, 5, 43, 57, 71, 85, 88, 89, 97, 101, 100, 102, 99, 10, 9, 123, 4] := by kernel_rfl
theorem gl44 : globs Tryd.f44 = [0, 1, 9, 8, 10, 7, 5, 3, 2] := by kernel_rfl
theorem gl45 : globs Tryd.f45 = [1, 0, 10, 5, 14, 25, 4] := by kernel_rfl
theorem gl47 : globs Tryd.f47 = [1, 0, 10, 5, 14, 26, 4] := by kernel_rfl
theorem gl48 : globs Tryd.f48 = [0, 1, 11, 5, 15, 25, 4] := by kernel_rfl
theorem gl49 : globs Tryd.f49 = [0, 11, 3, 15, 29, 2] := by kernel_rfl
theorem gl51 : globs Tryd.f51 = [0, 6, 3, 10, 24, 2] := by kernel_rfl
theorem gl52 : globs Tryd.f52 = [0, 4, 11, 3, 2] := by kernel_rfl
theorem gl53 : globs Tryd.f53 = [1, 5, 22, 25, 0, 33, 40, 41, 46, 52, 9, 8, 69, 6, 75, 11, 84, 7, 105, 10, 114, 12, 121, 17, 15, 138, 13, 144, 18, 153, 14, 174, 16, 189, 19, 196, 4] := by kernel_rfl
theorem gl56 : globs Tryd.f56 = [0, 4, 30, 39, 44, 49, 48, 50, 47, 8, 56, 6, 5, 66, 10, 9, 2, 3] := by kernel_rfl
theorem gl59 : globs Tryd.f59 = [0, 7, 6, 8, 5, 4, 16, 2] := by kernel_rfl
theorem gl63 : globs Tryd.f63 = [1, 0, 10, 5, 14, 26, 4] := by kernel_rfl
theorem gl76 : globs Tryd.f76 = [0, 8, 7, 9, 5, 1, 16, 4] := by kernel_rfl
theorem gl79 : globs Tryd.f79 = [0, 19, 1, 25, 32, 37, 40, 52, 64, 2, 77, 83, 85, 90, 92, 101, 100, 102, 99, 8, 15, 106, 112, 121, 16, 137, 10, 13, 141, 11, 17, 159, 9, 12, 169, 6, 7] := by kernel_rfl
theorem gl84 : globs Tryd.f84 = [0, 4, 20, 1, 5, 7, 6, 9, 8, 11, 10, 99, 12, 13, 15, 14, 139, 16, 161] := by kernel_rfl
theorem gl85 : globs Tryd.f85 = [2, 28, 3, 30, 1, 34, 15, 46, 13, 12, 16, 14, 17, 68, 18, 89, 4, 94, 0, 10, 11] := by kernel_rfl
theorem gl87 : globs Tryd.f87 = [0, 18, 46, 4, 54, 5, 83, 87, 3, 89, 91, 2] := by kernel_rfl
theorem funcs_all {f : Func → Bool} (h : Tryd.prog.funcs.all f = true) {i : Nat} {fn : Func} (hi : Tryd.prog.funcs[i]? = some fn) : f fn = true := Array.all_eq_true_iff_forall_mem.1 h fn (Array.mem_of_getElem? hi)
theorem progB : @Prog ⟨True⟩ Cb := letI : Dd := ⟨True⟩; ⟨fun t i h => tabOk t i h, mixed, fun f fn h => by simpa using funcs_all names_ok h, fun f fn c h hc => by have := funcs_all dsts_ok h; rw [hc] at this; exact this, fun _ _ _ _ _ h => (by cases h), fun _ _ _ _ _ _ => trivial⟩
instance ddS : Dd := ⟨False⟩
theorem hasBody {fn : Func} (h : fn.body.isSome = true) : fn.body = some (code fn) := by
  unfold code
  cases hb : fn.body with
  | none => rw [hb] at h; cases h
  | some c => rfl
theorem call0 {g : FuncId} {gn : Func} {ts : List TV} {hp : Hp} {r : Option Res} (hg : Tryd.prog.funcs[g]? = some gn) (hb : gn.body.isSome = true) (h : lim C0 g gn [.c (code gn)] ⟨number ts 0, hp⟩ = r) (hx : isExt g = false := by rfl) : phi C0 (lim C0) g ts hp = r :=
  (phi_at (C := C0) (c := code gn) (ext0_none hx ts hp) hg (hasBody hb)).trans h
theorem callB {g : FuncId} {gn : Func} {ts : List TV} {hp : Hp} {r : Option Res} (hg : Tryd.prog.funcs[g]? = some gn) (hb : gn.body.isSome = true) (h : lim Cb g gn [.c (code gn)] ⟨number ts 0, hp⟩ = r) : phi Cb (lim Cb) g ts hp = r :=
  (phi_at (C := Cb) (c := code gn) rfl hg (hasBody hb)).trans h
end Go.Proofs.YtgkhojgmpojodaaDoor
