/- Closed facts of this seat's program for the pure machine: its table of types, the orders of the drawn regions, what is asked of it. -/
import Derived.Test.YtopoaemlbnkhgaaPm4
import Derived.Test.YtopoaemlbnkhgaaChecked
namespace Go.Proofs.Ytopoaemlbnkhgaa
open Go Go.Pm Go.Proofs
set_option linter.unusedVariables false
set_option linter.unusedSimpArgs false
def tab : List (Nat × TI) := [
  (1, ⟨1, 8, .other, .pv false (.sc .nilFunc)⟩),
  (2, ⟨1, 8, .int .i64, .pv false (.sc (.int .i64 0))⟩),
  (3, ⟨1, 8, .int .i64, .pv false (.sc (.int .i64 0))⟩),
  (4, ⟨1, 1, .bool, .pv false (.sc (.bool false))⟩),
  (5, ⟨1, 1, .int .u8, .pv false (.sc (.int .u8 0))⟩),
  (6, ⟨1, 1, .int .u8, .pv false (.sc (.int .u8 0))⟩),
  (7, ⟨4, 24, .struct [(0, 2), (1, 3), (2, 4), (3, 6)], .ag [.pv false (.sc (.int .i64 0)), .pv false (.sc (.int .i64 0)), .pv false (.sc (.bool false)), .pv false (.sc (.int .u8 0))]⟩),
  (8, ⟨4, 24, .struct [(0, 2), (1, 3), (2, 4), (3, 6)], .ag [.pv false (.sc (.int .i64 0)), .pv false (.sc (.int .i64 0)), .pv false (.sc (.bool false)), .pv false (.sc (.int .u8 0))]⟩),
  (9, ⟨1, 16, .str, .pv false (.sc (.string ⟨#[]⟩))⟩),
  (10, ⟨1, 16, .str, .pv false (.sc (.string ⟨#[]⟩))⟩),
  (11, ⟨1, 16, .str, .pv false (.sc (.string ⟨#[]⟩))⟩),
  (12, ⟨1, 8, .int .u64, .pv false (.sc (.int .u64 0))⟩),
  (13, ⟨2, 24, .struct [(0, 9), (1, 12)], .ag [.pv false (.sc (.string ⟨#[]⟩)), .pv false (.sc (.int .u64 0))]⟩),
  (14, ⟨2, 24, .struct [(0, 9), (1, 12)], .ag [.pv false (.sc (.string ⟨#[]⟩)), .pv false (.sc (.int .u64 0))]⟩),
  (15, ⟨1, 8, .ptr 138, .pv false (.sc (.pointer none))⟩),
  (16, ⟨1, 8, .ptr 141, .pv false (.sc (.pointer none))⟩),
  (17, ⟨1, 8, .ptr 150, .pv false (.sc (.pointer none))⟩),
  (18, ⟨1, 8, .struct [(0, 17)], .ag [.pv false (.sc (.pointer none))]⟩),
  (19, ⟨1, 8, .struct [(0, 17)], .ag [.pv false (.sc (.pointer none))]⟩),
  (20, ⟨1, 16, .other, .pv false (.sc .nilIface)⟩),
  (21, ⟨1, 4, .int .i32, .pv false (.sc (.int .i32 0))⟩),
  (22, ⟨1, 24, .slice 5, .nl⟩),
  (23, ⟨1, 24, .slice 3, .nl⟩),
  (24, ⟨4, 64, .struct [(0, 3), (1, 22), (2, 3), (3, 23)], .ag [.pv false (.sc (.int .i64 0)), .nl, .pv false (.sc (.int .i64 0)), .nl]⟩),
  (25, ⟨4, 64, .struct [(0, 3), (1, 22), (2, 3), (3, 23)], .ag [.pv false (.sc (.int .i64 0)), .nl, .pv false (.sc (.int .i64 0)), .nl]⟩),
  (26, ⟨1, 8, .other, .pv false (.sc .nilFunc)⟩),
  (27, ⟨1, 8, .other, .pv false (.sc .nilFunc)⟩),
  (28, ⟨4, 64, .struct [(0, 3), (1, 22), (2, 3), (3, 23)], .ag [.pv false (.sc (.int .i64 0)), .nl, .pv false (.sc (.int .i64 0)), .nl]⟩),
  (29, ⟨1, 8, .other, .pv false (.sc .nilFunc)⟩),
  (30, ⟨1, 8, .other, .pv false (.sc .nilFunc)⟩),
  (31, ⟨1, 8, .other, .pv false (.sc .nilFunc)⟩),
  (32, ⟨1, 24, .slice 42, .nl⟩),
  (33, ⟨2, 32, .struct [(0, 3), (1, 32)], .ag [.pv false (.sc (.int .i64 0)), .nl]⟩),
  (34, ⟨2, 32, .struct [(0, 3), (1, 32)], .ag [.pv false (.sc (.int .i64 0)), .nl]⟩),
  (35, ⟨1, 8, .other, .pv false (.sc .nilFunc)⟩),
  (37, ⟨1, 8, .other, .pv false (.sc .nilFunc)⟩),
  (39, ⟨1, 8, .other, .pv false (.sc .nilFunc)⟩),
  (40, ⟨1, 8, .other, .pv false (.sc .nilFunc)⟩),
  (41, ⟨2, 16, .struct [(0, 3), (1, 3)], .ag [.pv false (.sc (.int .i64 0)), .pv false (.sc (.int .i64 0))]⟩),
  (42, ⟨2, 16, .struct [(0, 3), (1, 3)], .ag [.pv false (.sc (.int .i64 0)), .pv false (.sc (.int .i64 0))]⟩),
  (43, ⟨1, 8, .other, .pv false (.sc .nilFunc)⟩),
  (44, ⟨1, 8, .other, .pv false (.sc .nilFunc)⟩),
  (45, ⟨1, 24, .slice 95, .nl⟩),
  (46, ⟨2, 32, .struct [(0, 3), (1, 45)], .ag [.pv false (.sc (.int .i64 0)), .nl]⟩),
  (47, ⟨2, 32, .struct [(0, 3), (1, 45)], .ag [.pv false (.sc (.int .i64 0)), .nl]⟩),
  (48, ⟨1, 8, .other, .pv false (.sc .nilFunc)⟩),
  (49, ⟨1, 8, .other, .pv false (.sc .nilFunc)⟩),
  (50, ⟨1, 8, .other, .pv false (.sc .nilFunc)⟩),
  (51, ⟨1, 8, .other, .pv false (.sc .nilFunc)⟩),
  (52, ⟨1, 8, .other, .pv false (.sc .nilFunc)⟩),
  (53, ⟨1, 8, .other, .pv false (.sc .nilFunc)⟩),
  (54, ⟨1, 8, .other, .pv false (.sc .nilFunc)⟩),
  (55, ⟨1, 8, .other, .pv false (.sc .nilFunc)⟩),
  (56, ⟨1, 8, .other, .pv false (.sc .nilFunc)⟩),
  (57, ⟨1, 8, .other, .pv false (.sc .nilFunc)⟩),
  (58, ⟨1, 8, .other, .pv false (.sc .nilFunc)⟩),
  (59, ⟨1, 8, .other, .pv false (.sc .nilFunc)⟩),
  (61, ⟨1, 8, .other, .pv false (.sc .nilFunc)⟩),
  (62, ⟨1, 8, .other, .pv false (.sc .nilFunc)⟩),
  (63, ⟨1, 24, .slice 4, .nl⟩),
  (64, ⟨1, 8, .other, .pv false (.sc .nilFunc)⟩),
  (65, ⟨1, 8, .other, .pv false (.sc .nilFunc)⟩),
  (66, ⟨1, 8, .other, .pv false (.sc .nilFunc)⟩),
  (67, ⟨1, 8, .other, .pv false (.sc .nilFunc)⟩),
  (68, ⟨1, 8, .other, .pv false (.sc .nilFunc)⟩),
  (69, ⟨1, 8, .ptr 91, .pv false (.sc (.pointer none))⟩),
  (70, ⟨1, 8, .other, .pv false (.sc .nilFunc)⟩),
  (71, ⟨1, 8, .other, .pv false (.sc .nilFunc)⟩),
  (72, ⟨20, 20, .arr 20 4, .ar (List.replicate 20 (.sc (.bool false)))⟩),
  (73, ⟨1, 8, .other, .pv false (.sc .nilFunc)⟩),
  (74, ⟨1, 8, .other, .pv false (.sc .nilFunc)⟩),
  (75, ⟨1, 8, .other, .pv false (.sc .nilFunc)⟩),
  (76, ⟨1, 8, .other, .pv false (.sc .nilFunc)⟩),
  (77, ⟨1, 8, .other, .pv false (.sc .nilFunc)⟩),
  (78, ⟨1, 8, .other, .pv false (.sc .nilFunc)⟩),
  (79, ⟨1, 8, .other, .pv false (.sc .nilFunc)⟩),
  (80, ⟨1, 8, .other, .pv false (.sc .nilFunc)⟩),
  (81, ⟨1, 8, .other, .pv false (.sc .nilFunc)⟩),
  (82, ⟨1, 8, .other, .pv false (.sc .nilFunc)⟩),
  (83, ⟨1, 8, .other, .pv false (.sc .nilFunc)⟩),
  (84, ⟨1, 8, .other, .pv false (.sc .nilFunc)⟩),
  (85, ⟨1, 8, .other, .pv false (.sc .nilFunc)⟩),
  (86, ⟨1, 8, .other, .pv false (.sc .nilFunc)⟩),
  (87, ⟨1, 8, .other, .pv false (.sc .nilFunc)⟩),
  (88, ⟨1, 8, .other, .pv false (.sc .nilFunc)⟩),
  (89, ⟨1, 8, .other, .pv false (.sc .nilFunc)⟩),
  (90, ⟨3, 40, .struct [(0, 22), (1, 3), (2, 3)], .ag [.nl, .pv false (.sc (.int .i64 0)), .pv false (.sc (.int .i64 0))]⟩),
  (91, ⟨3, 40, .struct [(0, 22), (1, 3), (2, 3)], .ag [.nl, .pv false (.sc (.int .i64 0)), .pv false (.sc (.int .i64 0))]⟩),
  (92, ⟨1, 8, .other, .pv false (.sc .nilFunc)⟩),
  (93, ⟨1, 8, .other, .pv false (.sc .nilFunc)⟩),
  (94, ⟨1, 8, .other, .pv false (.sc .nilFunc)⟩),
  (95, ⟨2, 16, .struct [(0, 3), (1, 3)], .ag [.pv false (.sc (.int .i64 0)), .pv false (.sc (.int .i64 0))]⟩),
  (96, ⟨1, 8, .other, .pv false (.sc .nilFunc)⟩),
  (97, ⟨1, 8, .other, .pv false (.sc .nilFunc)⟩),
  (98, ⟨1, 8, .int .u64, .pv false (.sc (.int .u64 0))⟩),
  (99, ⟨1, 8, .other, .pv false (.sc .nilFunc)⟩),
  (100, ⟨1, 8, .other, .pv false (.sc .nilFunc)⟩),
  (101, ⟨1, 8, .other, .pv false (.sc .nilFunc)⟩),
  (102, ⟨1, 8, .other, .pv false (.sc .nilFunc)⟩),
  (103, ⟨1, 8, .other, .pv false (.sc .nilFunc)⟩),
  (104, ⟨1, 8, .other, .pv false (.sc .nilFunc)⟩),
  (105, ⟨1, 8, .other, .pv false (.sc .nilFunc)⟩),
  (106, ⟨1, 8, .other, .pv false (.sc .nilFunc)⟩),
  (107, ⟨1, 8, .int .i64, .pv false (.sc (.int .i64 0))⟩),
  (109, ⟨1, 8, .other, .pv false (.sc .nilFunc)⟩),
  (110, ⟨1, 8, .other, .pv false (.sc .nilFunc)⟩),
  (111, ⟨1, 8, .other, .pv false (.sc .nilFunc)⟩),
  (113, ⟨1, 8, .other, .pv false (.sc .nilFunc)⟩),
  (114, ⟨1, 8, .other, .pv false (.sc .nilFunc)⟩),
  (115, ⟨1, 4, .int .u32, .pv false (.sc (.int .u32 0))⟩),
  (116, ⟨1, 8, .other, .pv false (.sc .nilFunc)⟩),
  (117, ⟨1, 8, .int .u64, .pv false (.sc (.int .u64 0))⟩),
  (118, ⟨1, 8, .other, .pv false (.sc .nilFunc)⟩),
  (119, ⟨1, 8, .other, .pv false (.sc .nilFunc)⟩),
  (120, ⟨1, 8, .other, .pv false (.sc .nilFunc)⟩),
  (121, ⟨1, 8, .other, .pv false (.sc .nilFunc)⟩),
  (122, ⟨1, 8, .other, .pv false (.sc .nilFunc)⟩),
  (123, ⟨1, 8, .other, .pv false (.sc .nilFunc)⟩),
  (124, ⟨1, 8, .int .u64, .pv false (.sc (.int .u64 0))⟩),
  (125, ⟨1, 8, .other, .pv false (.sc .nilFunc)⟩),
  (126, ⟨1, 8, .other, .pv false (.sc .nilFunc)⟩),
  (127, ⟨1, 8, .other, .pv false (.sc .nilFunc)⟩),
  (128, ⟨1, 8, .ptr 3, .pv false (.sc (.pointer none))⟩),
  (129, ⟨1, 8, .other, .pv false (.sc .nilFunc)⟩),
  (130, ⟨1, 8, .other, .pv false (.sc .nilFunc)⟩),
  (131, ⟨1, 8, .other, .pv false (.sc .nilFunc)⟩),
  (132, ⟨1, 8, .ptr 124, .pv false (.sc (.pointer none))⟩),
  (134, ⟨1, 8, .other, .pv false (.sc .nilFunc)⟩),
  (135, ⟨1, 8, .other, .pv false (.sc .nilFunc)⟩),
  (136, ⟨1, 8, .other, .pv false (.sc .nilFunc)⟩),
  (137, ⟨4, 40, .struct [(0, 17), (1, 17), (2, 17), (3, 9)], .ag [.pv false (.sc (.pointer none)), .pv false (.sc (.pointer none)), .pv false (.sc (.pointer none)), .pv false (.sc (.string ⟨#[]⟩))]⟩),
  (138, ⟨4, 40, .struct [(0, 17), (1, 17), (2, 17), (3, 9)], .ag [.pv false (.sc (.pointer none)), .pv false (.sc (.pointer none)), .pv false (.sc (.pointer none)), .pv false (.sc (.string ⟨#[]⟩))]⟩),
  (139, ⟨0, 0, .arr 0 16, .ar []⟩),
  (142, ⟨1, 8, .other, .pv false (.sc .nilFunc)⟩),
  (143, ⟨1, 1, .int .u8, .pv false (.sc (.int .u8 0))⟩),
  (144, ⟨1, 1, .int .u8, .pv false (.sc (.int .u8 0))⟩),
  (145, ⟨1, 8, .other, .pv false (.sc .nilFunc)⟩),
  (146, ⟨1, 8, .ptr 5, .pv false (.sc (.pointer none))⟩),
  (147, ⟨1, 4, .int .i32, .pv false (.sc (.int .i32 0))⟩),
  (148, ⟨1, 4, .int .i32, .pv false (.sc (.int .i32 0))⟩),
  (149, ⟨11, 48, .struct [(0, 12), (1, 12), (2, 115), (3, 143), (4, 5), (5, 5), (6, 144), (7, 145), (8, 146), (9, 147), (10, 148)], .ag [.pv false (.sc (.int .u64 0)), .pv false (.sc (.int .u64 0)), .pv false (.sc (.int .u32 0)), .pv false (.sc (.int .u8 0)), .pv false (.sc (.int .u8 0)), .pv false (.sc (.int .u8 0)), .pv false (.sc (.int .u8 0)), .pv false (.sc .nilFunc), .pv false (.sc (.pointer none)), .pv false (.sc (.int .i32 0)), .pv false (.sc (.int .i32 0))]⟩),
  (150, ⟨11, 48, .struct [(0, 12), (1, 12), (2, 115), (3, 143), (4, 5), (5, 5), (6, 144), (7, 145), (8, 146), (9, 147), (10, 148)], .ag [.pv false (.sc (.int .u64 0)), .pv false (.sc (.int .u64 0)), .pv false (.sc (.int .u32 0)), .pv false (.sc (.int .u8 0)), .pv false (.sc (.int .u8 0)), .pv false (.sc (.int .u8 0)), .pv false (.sc (.int .u8 0)), .pv false (.sc .nilFunc), .pv false (.sc (.pointer none)), .pv false (.sc (.int .i32 0)), .pv false (.sc (.int .i32 0))]⟩),
  (151, ⟨1, 8, .other, .pv false (.sc (.pointer none))⟩)]
theorem look_all {α : Type} {f : Nat → α → Bool} : ∀ {l : List (Nat × α)}, (l.all fun x => f x.1 x.2) = true → ∀ {i : Nat} {a : α}, Pm.look l i = some a → f i a = true := by
  intro l
  induction l with
  | nil => intro _ i a h; cases h
  | cons x l ih =>
    intro h i a hl
    simp only [List.all_cons, Bool.and_eq_true] at h
    simp only [Pm.look] at hl
    split at hl
    · rename_i e; cases hl; rw [e]; exact h.1
    · exact ih h.2 hl
theorem tab_ok : (tab.all fun x => tyOk Try.prog x.1 x.2) = true := by kernel_rfl
def tyT (t : Nat) : Option TI := Pm.look tab t
def sigs : List (Nat × Sig) := [(30, ⟨[], .own 3 1⟩), (63, ⟨[], .own 42 2⟩), (26, ⟨[], .ag [.d, .own 42 2]⟩), (34, ⟨[true], .d⟩), (67, ⟨[true], .d⟩), (33, ⟨[true], .d⟩), (21, ⟨[], .tu [.own 3 1, .d]⟩), (56, ⟨[], .tu [.own 3 1, .d]⟩), (36, ⟨[], .tu [.d, .d]⟩), (39, ⟨[], .own 3 1⟩), (44, ⟨[], .own 3 1⟩), (42, ⟨[], .tu [.ag [.d, .own 42 2], .d]⟩), (20, ⟨[], .tu [.ag [.d, .own 42 2], .d]⟩), (31, ⟨[], .tu [.ag [.d, .own 42 2], .d]⟩), (41, ⟨[], .tu [.d, .d]⟩), (40, ⟨[], .tu [.d, .d]⟩), (29, ⟨[], .tu [.d, .d]⟩), (71, ⟨[true], .d⟩), (77, ⟨[true], .d⟩), (78, ⟨[true], .own 3 1⟩), (57, ⟨[true], .own 42 2⟩), (55, ⟨[], .any⟩), (92, ⟨[true], .d⟩), (73, ⟨[true], .d⟩), (74, ⟨[true], .d⟩), (82, ⟨[true], .d⟩), (96, ⟨[true, false], .own 42 2⟩), (81, ⟨[true], .ag [.d, .own 42 2]⟩), (54, ⟨[true], .ag [.d, .own 42 2]⟩), (19, ⟨[], .ag [.d, .own 42 2]⟩), (46, ⟨[], .ag [.d, .own 42 2]⟩), (43, ⟨[], .tu [.ag [.d, .own 42 2], .own 3 1]⟩)]
def sgOf (f : FuncId) : Sig := (Pm.look sigs f).getD ⟨[], .d⟩
/-! what is known of the library's functions without their code -/
abbrev Ed := Int × Int
def edP (e : Ed) : List PV := [.sc (.int .i64 e.1), .sc (.int .i64 e.2)]
def cmpI (a b : Int) : Int := if a < b then -1 else if b < a then 1 else 0
def cmpE (a b : Ed) : Int := if cmpI a.1 b.1 = 0 then cmpI a.2 b.2 else cmpI a.1 b.1
def sortE (l : List Ed) : List Ed := l.mergeSort fun x y => !decide (cmpE y x < 0)
def sortI (l : List Int) : List Int := l.mergeSort fun x y => decide (x ≤ y)
def cptA : Int → List Int → List Int
  | _, [] => []
  | p, x :: l => bif decide (x = p) then cptA p l else x :: cptA x l
def cptI : List Int → List Int
  | [] => []
  | x :: l => x :: cptA x l
def finSE (l : List Ed) : TV × List Ed := (.tu [], sortE l)
def finSI (l : List Int) : TV × List Int := (.tu [], sortI l)
def finCI (l : List Int) : TV × List Int := (.ref 0 0 (cptI l).length, cptI l)
def isExt (f : FuncId) : Bool := f == 71 || f == 77 || f == 78
noncomputable def ext0 (f : FuncId) (ts : List TV) (hp : Hp) : Option Res :=
  bif f == 71 then extRow edP finSE (.tu []) 42 2 [.pv true (.cl 72 [])] ts hp else
  bif f == 77 then extRow (numP .i64) finSI (.tu []) 3 1 [] ts hp else
  bif f == 78 then extRow (numP .i64) finCI .nl 3 1 [] ts hp else none
theorem ext0_none {f : FuncId} (h : isExt f = false) (ts : List TV) (hp : Hp) : ext0 f ts hp = none := by
  simp only [isExt, Bool.or_eq_false_iff] at h
  simp [ext0, h]
/-- The program without them. -/
noncomputable def Cb : Cfg := ⟨Try.prog, tyT, sgOf, fun _ _ _ => none⟩
noncomputable def C0 : Cfg := ⟨Try.prog, tyT, sgOf, ext0⟩
@[simp] theorem Cb_T : Cb.T = tyT := rfl
@[simp] theorem Cb_sg (f : FuncId) : Cb.sg f = sgOf f := rfl
@[simp] theorem C0_T : C0.T = tyT := rfl
@[simp] theorem C0_sg (f : FuncId) : C0.sg f = sgOf f := rfl
theorem tabOk : TabOk C0 := fun t i h => tyOk_of (look_all (f := tyOk Try.prog) tab_ok h)
@[simp] theorem tyT1 : tyT 1 = some ⟨1, 8, .other, .pv false (.sc .nilFunc)⟩ := by kernel_rfl
@[simp] theorem tyT2 : tyT 2 = some ⟨1, 8, .int .i64, .pv false (.sc (.int .i64 0))⟩ := by kernel_rfl
@[simp] theorem tyT3 : tyT 3 = some ⟨1, 8, .int .i64, .pv false (.sc (.int .i64 0))⟩ := by kernel_rfl
@[simp] theorem tyT4 : tyT 4 = some ⟨1, 1, .bool, .pv false (.sc (.bool false))⟩ := by kernel_rfl
@[simp] theorem tyT5 : tyT 5 = some ⟨1, 1, .int .u8, .pv false (.sc (.int .u8 0))⟩ := by kernel_rfl
@[simp] theorem tyT6 : tyT 6 = some ⟨1, 1, .int .u8, .pv false (.sc (.int .u8 0))⟩ := by kernel_rfl
@[simp] theorem tyT7 : tyT 7 = some ⟨4, 24, .struct [(0, 2), (1, 3), (2, 4), (3, 6)], .ag [.pv false (.sc (.int .i64 0)), .pv false (.sc (.int .i64 0)), .pv false (.sc (.bool false)), .pv false (.sc (.int .u8 0))]⟩ := by kernel_rfl
@[simp] theorem tyT8 : tyT 8 = some ⟨4, 24, .struct [(0, 2), (1, 3), (2, 4), (3, 6)], .ag [.pv false (.sc (.int .i64 0)), .pv false (.sc (.int .i64 0)), .pv false (.sc (.bool false)), .pv false (.sc (.int .u8 0))]⟩ := by kernel_rfl
@[simp] theorem tyT9 : tyT 9 = some ⟨1, 16, .str, .pv false (.sc (.string ⟨#[]⟩))⟩ := by kernel_rfl
@[simp] theorem tyT10 : tyT 10 = some ⟨1, 16, .str, .pv false (.sc (.string ⟨#[]⟩))⟩ := by kernel_rfl
@[simp] theorem tyT11 : tyT 11 = some ⟨1, 16, .str, .pv false (.sc (.string ⟨#[]⟩))⟩ := by kernel_rfl
@[simp] theorem tyT12 : tyT 12 = some ⟨1, 8, .int .u64, .pv false (.sc (.int .u64 0))⟩ := by kernel_rfl
@[simp] theorem tyT13 : tyT 13 = some ⟨2, 24, .struct [(0, 9), (1, 12)], .ag [.pv false (.sc (.string ⟨#[]⟩)), .pv false (.sc (.int .u64 0))]⟩ := by kernel_rfl
@[simp] theorem tyT14 : tyT 14 = some ⟨2, 24, .struct [(0, 9), (1, 12)], .ag [.pv false (.sc (.string ⟨#[]⟩)), .pv false (.sc (.int .u64 0))]⟩ := by kernel_rfl
@[simp] theorem tyT15 : tyT 15 = some ⟨1, 8, .ptr 138, .pv false (.sc (.pointer none))⟩ := by kernel_rfl
@[simp] theorem tyT16 : tyT 16 = some ⟨1, 8, .ptr 141, .pv false (.sc (.pointer none))⟩ := by kernel_rfl
@[simp] theorem tyT17 : tyT 17 = some ⟨1, 8, .ptr 150, .pv false (.sc (.pointer none))⟩ := by kernel_rfl
@[simp] theorem tyT18 : tyT 18 = some ⟨1, 8, .struct [(0, 17)], .ag [.pv false (.sc (.pointer none))]⟩ := by kernel_rfl
@[simp] theorem tyT19 : tyT 19 = some ⟨1, 8, .struct [(0, 17)], .ag [.pv false (.sc (.pointer none))]⟩ := by kernel_rfl
@[simp] theorem tyT20 : tyT 20 = some ⟨1, 16, .other, .pv false (.sc .nilIface)⟩ := by kernel_rfl
@[simp] theorem tyT21 : tyT 21 = some ⟨1, 4, .int .i32, .pv false (.sc (.int .i32 0))⟩ := by kernel_rfl
@[simp] theorem tyT22 : tyT 22 = some ⟨1, 24, .slice 5, .nl⟩ := by kernel_rfl
@[simp] theorem tyT23 : tyT 23 = some ⟨1, 24, .slice 3, .nl⟩ := by kernel_rfl
@[simp] theorem tyT24 : tyT 24 = some ⟨4, 64, .struct [(0, 3), (1, 22), (2, 3), (3, 23)], .ag [.pv false (.sc (.int .i64 0)), .nl, .pv false (.sc (.int .i64 0)), .nl]⟩ := by kernel_rfl
@[simp] theorem tyT25 : tyT 25 = some ⟨4, 64, .struct [(0, 3), (1, 22), (2, 3), (3, 23)], .ag [.pv false (.sc (.int .i64 0)), .nl, .pv false (.sc (.int .i64 0)), .nl]⟩ := by kernel_rfl
@[simp] theorem tyT26 : tyT 26 = some ⟨1, 8, .other, .pv false (.sc .nilFunc)⟩ := by kernel_rfl
@[simp] theorem tyT27 : tyT 27 = some ⟨1, 8, .other, .pv false (.sc .nilFunc)⟩ := by kernel_rfl
@[simp] theorem tyT28 : tyT 28 = some ⟨4, 64, .struct [(0, 3), (1, 22), (2, 3), (3, 23)], .ag [.pv false (.sc (.int .i64 0)), .nl, .pv false (.sc (.int .i64 0)), .nl]⟩ := by kernel_rfl
@[simp] theorem tyT29 : tyT 29 = some ⟨1, 8, .other, .pv false (.sc .nilFunc)⟩ := by kernel_rfl
@[simp] theorem tyT30 : tyT 30 = some ⟨1, 8, .other, .pv false (.sc .nilFunc)⟩ := by kernel_rfl
@[simp] theorem tyT31 : tyT 31 = some ⟨1, 8, .other, .pv false (.sc .nilFunc)⟩ := by kernel_rfl
@[simp] theorem tyT32 : tyT 32 = some ⟨1, 24, .slice 42, .nl⟩ := by kernel_rfl
@[simp] theorem tyT33 : tyT 33 = some ⟨2, 32, .struct [(0, 3), (1, 32)], .ag [.pv false (.sc (.int .i64 0)), .nl]⟩ := by kernel_rfl
@[simp] theorem tyT34 : tyT 34 = some ⟨2, 32, .struct [(0, 3), (1, 32)], .ag [.pv false (.sc (.int .i64 0)), .nl]⟩ := by kernel_rfl
@[simp] theorem tyT35 : tyT 35 = some ⟨1, 8, .other, .pv false (.sc .nilFunc)⟩ := by kernel_rfl
@[simp] theorem tyT37 : tyT 37 = some ⟨1, 8, .other, .pv false (.sc .nilFunc)⟩ := by kernel_rfl
@[simp] theorem tyT39 : tyT 39 = some ⟨1, 8, .other, .pv false (.sc .nilFunc)⟩ := by kernel_rfl
@[simp] theorem tyT40 : tyT 40 = some ⟨1, 8, .other, .pv false (.sc .nilFunc)⟩ := by kernel_rfl
@[simp] theorem tyT41 : tyT 41 = some ⟨2, 16, .struct [(0, 3), (1, 3)], .ag [.pv false (.sc (.int .i64 0)), .pv false (.sc (.int .i64 0))]⟩ := by kernel_rfl
@[simp] theorem tyT42 : tyT 42 = some ⟨2, 16, .struct [(0, 3), (1, 3)], .ag [.pv false (.sc (.int .i64 0)), .pv false (.sc (.int .i64 0))]⟩ := by kernel_rfl
@[simp] theorem tyT43 : tyT 43 = some ⟨1, 8, .other, .pv false (.sc .nilFunc)⟩ := by kernel_rfl
@[simp] theorem tyT44 : tyT 44 = some ⟨1, 8, .other, .pv false (.sc .nilFunc)⟩ := by kernel_rfl
@[simp] theorem tyT45 : tyT 45 = some ⟨1, 24, .slice 95, .nl⟩ := by kernel_rfl
@[simp] theorem tyT46 : tyT 46 = some ⟨2, 32, .struct [(0, 3), (1, 45)], .ag [.pv false (.sc (.int .i64 0)), .nl]⟩ := by kernel_rfl
@[simp] theorem tyT47 : tyT 47 = some ⟨2, 32, .struct [(0, 3), (1, 45)], .ag [.pv false (.sc (.int .i64 0)), .nl]⟩ := by kernel_rfl
@[simp] theorem tyT48 : tyT 48 = some ⟨1, 8, .other, .pv false (.sc .nilFunc)⟩ := by kernel_rfl
@[simp] theorem tyT49 : tyT 49 = some ⟨1, 8, .other, .pv false (.sc .nilFunc)⟩ := by kernel_rfl
@[simp] theorem tyT50 : tyT 50 = some ⟨1, 8, .other, .pv false (.sc .nilFunc)⟩ := by kernel_rfl
@[simp] theorem tyT51 : tyT 51 = some ⟨1, 8, .other, .pv false (.sc .nilFunc)⟩ := by kernel_rfl
@[simp] theorem tyT52 : tyT 52 = some ⟨1, 8, .other, .pv false (.sc .nilFunc)⟩ := by kernel_rfl
@[simp] theorem tyT53 : tyT 53 = some ⟨1, 8, .other, .pv false (.sc .nilFunc)⟩ := by kernel_rfl
@[simp] theorem tyT54 : tyT 54 = some ⟨1, 8, .other, .pv false (.sc .nilFunc)⟩ := by kernel_rfl
@[simp] theorem tyT55 : tyT 55 = some ⟨1, 8, .other, .pv false (.sc .nilFunc)⟩ := by kernel_rfl
@[simp] theorem tyT56 : tyT 56 = some ⟨1, 8, .other, .pv false (.sc .nilFunc)⟩ := by kernel_rfl
@[simp] theorem tyT57 : tyT 57 = some ⟨1, 8, .other, .pv false (.sc .nilFunc)⟩ := by kernel_rfl
@[simp] theorem tyT58 : tyT 58 = some ⟨1, 8, .other, .pv false (.sc .nilFunc)⟩ := by kernel_rfl
@[simp] theorem tyT59 : tyT 59 = some ⟨1, 8, .other, .pv false (.sc .nilFunc)⟩ := by kernel_rfl
@[simp] theorem tyT61 : tyT 61 = some ⟨1, 8, .other, .pv false (.sc .nilFunc)⟩ := by kernel_rfl
@[simp] theorem tyT62 : tyT 62 = some ⟨1, 8, .other, .pv false (.sc .nilFunc)⟩ := by kernel_rfl
@[simp] theorem tyT63 : tyT 63 = some ⟨1, 24, .slice 4, .nl⟩ := by kernel_rfl
@[simp] theorem tyT64 : tyT 64 = some ⟨1, 8, .other, .pv false (.sc .nilFunc)⟩ := by kernel_rfl
@[simp] theorem tyT65 : tyT 65 = some ⟨1, 8, .other, .pv false (.sc .nilFunc)⟩ := by kernel_rfl
@[simp] theorem tyT66 : tyT 66 = some ⟨1, 8, .other, .pv false (.sc .nilFunc)⟩ := by kernel_rfl
@[simp] theorem tyT67 : tyT 67 = some ⟨1, 8, .other, .pv false (.sc .nilFunc)⟩ := by kernel_rfl
@[simp] theorem tyT68 : tyT 68 = some ⟨1, 8, .other, .pv false (.sc .nilFunc)⟩ := by kernel_rfl
@[simp] theorem tyT69 : tyT 69 = some ⟨1, 8, .ptr 91, .pv false (.sc (.pointer none))⟩ := by kernel_rfl
@[simp] theorem tyT70 : tyT 70 = some ⟨1, 8, .other, .pv false (.sc .nilFunc)⟩ := by kernel_rfl
@[simp] theorem tyT71 : tyT 71 = some ⟨1, 8, .other, .pv false (.sc .nilFunc)⟩ := by kernel_rfl
@[simp] theorem tyT72 : tyT 72 = some ⟨20, 20, .arr 20 4, .ar (List.replicate 20 (.sc (.bool false)))⟩ := by kernel_rfl
@[simp] theorem tyT73 : tyT 73 = some ⟨1, 8, .other, .pv false (.sc .nilFunc)⟩ := by kernel_rfl
@[simp] theorem tyT74 : tyT 74 = some ⟨1, 8, .other, .pv false (.sc .nilFunc)⟩ := by kernel_rfl
@[simp] theorem tyT75 : tyT 75 = some ⟨1, 8, .other, .pv false (.sc .nilFunc)⟩ := by kernel_rfl
@[simp] theorem tyT76 : tyT 76 = some ⟨1, 8, .other, .pv false (.sc .nilFunc)⟩ := by kernel_rfl
@[simp] theorem tyT77 : tyT 77 = some ⟨1, 8, .other, .pv false (.sc .nilFunc)⟩ := by kernel_rfl
@[simp] theorem tyT78 : tyT 78 = some ⟨1, 8, .other, .pv false (.sc .nilFunc)⟩ := by kernel_rfl
@[simp] theorem tyT79 : tyT 79 = some ⟨1, 8, .other, .pv false (.sc .nilFunc)⟩ := by kernel_rfl
@[simp] theorem tyT80 : tyT 80 = some ⟨1, 8, .other, .pv false (.sc .nilFunc)⟩ := by kernel_rfl
@[simp] theorem tyT81 : tyT 81 = some ⟨1, 8, .other, .pv false (.sc .nilFunc)⟩ := by kernel_rfl
@[simp] theorem tyT82 : tyT 82 = some ⟨1, 8, .other, .pv false (.sc .nilFunc)⟩ := by kernel_rfl
@[simp] theorem tyT83 : tyT 83 = some ⟨1, 8, .other, .pv false (.sc .nilFunc)⟩ := by kernel_rfl
@[simp] theorem tyT84 : tyT 84 = some ⟨1, 8, .other, .pv false (.sc .nilFunc)⟩ := by kernel_rfl
@[simp] theorem tyT85 : tyT 85 = some ⟨1, 8, .other, .pv false (.sc .nilFunc)⟩ := by kernel_rfl
@[simp] theorem tyT86 : tyT 86 = some ⟨1, 8, .other, .pv false (.sc .nilFunc)⟩ := by kernel_rfl
@[simp] theorem tyT87 : tyT 87 = some ⟨1, 8, .other, .pv false (.sc .nilFunc)⟩ := by kernel_rfl
@[simp] theorem tyT88 : tyT 88 = some ⟨1, 8, .other, .pv false (.sc .nilFunc)⟩ := by kernel_rfl
@[simp] theorem tyT89 : tyT 89 = some ⟨1, 8, .other, .pv false (.sc .nilFunc)⟩ := by kernel_rfl
@[simp] theorem tyT90 : tyT 90 = some ⟨3, 40, .struct [(0, 22), (1, 3), (2, 3)], .ag [.nl, .pv false (.sc (.int .i64 0)), .pv false (.sc (.int .i64 0))]⟩ := by kernel_rfl
@[simp] theorem tyT91 : tyT 91 = some ⟨3, 40, .struct [(0, 22), (1, 3), (2, 3)], .ag [.nl, .pv false (.sc (.int .i64 0)), .pv false (.sc (.int .i64 0))]⟩ := by kernel_rfl
@[simp] theorem tyT92 : tyT 92 = some ⟨1, 8, .other, .pv false (.sc .nilFunc)⟩ := by kernel_rfl
@[simp] theorem tyT93 : tyT 93 = some ⟨1, 8, .other, .pv false (.sc .nilFunc)⟩ := by kernel_rfl
@[simp] theorem tyT94 : tyT 94 = some ⟨1, 8, .other, .pv false (.sc .nilFunc)⟩ := by kernel_rfl
@[simp] theorem tyT95 : tyT 95 = some ⟨2, 16, .struct [(0, 3), (1, 3)], .ag [.pv false (.sc (.int .i64 0)), .pv false (.sc (.int .i64 0))]⟩ := by kernel_rfl
@[simp] theorem tyT96 : tyT 96 = some ⟨1, 8, .other, .pv false (.sc .nilFunc)⟩ := by kernel_rfl
@[simp] theorem tyT97 : tyT 97 = some ⟨1, 8, .other, .pv false (.sc .nilFunc)⟩ := by kernel_rfl
@[simp] theorem tyT98 : tyT 98 = some ⟨1, 8, .int .u64, .pv false (.sc (.int .u64 0))⟩ := by kernel_rfl
@[simp] theorem tyT99 : tyT 99 = some ⟨1, 8, .other, .pv false (.sc .nilFunc)⟩ := by kernel_rfl
@[simp] theorem tyT100 : tyT 100 = some ⟨1, 8, .other, .pv false (.sc .nilFunc)⟩ := by kernel_rfl
@[simp] theorem tyT101 : tyT 101 = some ⟨1, 8, .other, .pv false (.sc .nilFunc)⟩ := by kernel_rfl
@[simp] theorem tyT102 : tyT 102 = some ⟨1, 8, .other, .pv false (.sc .nilFunc)⟩ := by kernel_rfl
@[simp] theorem tyT103 : tyT 103 = some ⟨1, 8, .other, .pv false (.sc .nilFunc)⟩ := by kernel_rfl
@[simp] theorem tyT104 : tyT 104 = some ⟨1, 8, .other, .pv false (.sc .nilFunc)⟩ := by kernel_rfl
@[simp] theorem tyT105 : tyT 105 = some ⟨1, 8, .other, .pv false (.sc .nilFunc)⟩ := by kernel_rfl
@[simp] theorem tyT106 : tyT 106 = some ⟨1, 8, .other, .pv false (.sc .nilFunc)⟩ := by kernel_rfl
@[simp] theorem tyT107 : tyT 107 = some ⟨1, 8, .int .i64, .pv false (.sc (.int .i64 0))⟩ := by kernel_rfl
@[simp] theorem tyT109 : tyT 109 = some ⟨1, 8, .other, .pv false (.sc .nilFunc)⟩ := by kernel_rfl
@[simp] theorem tyT110 : tyT 110 = some ⟨1, 8, .other, .pv false (.sc .nilFunc)⟩ := by kernel_rfl
@[simp] theorem tyT111 : tyT 111 = some ⟨1, 8, .other, .pv false (.sc .nilFunc)⟩ := by kernel_rfl
@[simp] theorem tyT113 : tyT 113 = some ⟨1, 8, .other, .pv false (.sc .nilFunc)⟩ := by kernel_rfl
@[simp] theorem tyT114 : tyT 114 = some ⟨1, 8, .other, .pv false (.sc .nilFunc)⟩ := by kernel_rfl
@[simp] theorem tyT115 : tyT 115 = some ⟨1, 4, .int .u32, .pv false (.sc (.int .u32 0))⟩ := by kernel_rfl
@[simp] theorem tyT116 : tyT 116 = some ⟨1, 8, .other, .pv false (.sc .nilFunc)⟩ := by kernel_rfl
@[simp] theorem tyT117 : tyT 117 = some ⟨1, 8, .int .u64, .pv false (.sc (.int .u64 0))⟩ := by kernel_rfl
@[simp] theorem tyT118 : tyT 118 = some ⟨1, 8, .other, .pv false (.sc .nilFunc)⟩ := by kernel_rfl
@[simp] theorem tyT119 : tyT 119 = some ⟨1, 8, .other, .pv false (.sc .nilFunc)⟩ := by kernel_rfl
@[simp] theorem tyT120 : tyT 120 = some ⟨1, 8, .other, .pv false (.sc .nilFunc)⟩ := by kernel_rfl
@[simp] theorem tyT121 : tyT 121 = some ⟨1, 8, .other, .pv false (.sc .nilFunc)⟩ := by kernel_rfl
@[simp] theorem tyT122 : tyT 122 = some ⟨1, 8, .other, .pv false (.sc .nilFunc)⟩ := by kernel_rfl
@[simp] theorem tyT123 : tyT 123 = some ⟨1, 8, .other, .pv false (.sc .nilFunc)⟩ := by kernel_rfl
@[simp] theorem tyT124 : tyT 124 = some ⟨1, 8, .int .u64, .pv false (.sc (.int .u64 0))⟩ := by kernel_rfl
@[simp] theorem tyT125 : tyT 125 = some ⟨1, 8, .other, .pv false (.sc .nilFunc)⟩ := by kernel_rfl
@[simp] theorem tyT126 : tyT 126 = some ⟨1, 8, .other, .pv false (.sc .nilFunc)⟩ := by kernel_rfl
@[simp] theorem tyT127 : tyT 127 = some ⟨1, 8, .other, .pv false (.sc .nilFunc)⟩ := by kernel_rfl
@[simp] theorem tyT128 : tyT 128 = some ⟨1, 8, .ptr 3, .pv false (.sc (.pointer none))⟩ := by kernel_rfl
@[simp] theorem tyT129 : tyT 129 = some ⟨1, 8, .other, .pv false (.sc .nilFunc)⟩ := by kernel_rfl
@[simp] theorem tyT130 : tyT 130 = some ⟨1, 8, .other, .pv false (.sc .nilFunc)⟩ := by kernel_rfl
@[simp] theorem tyT131 : tyT 131 = some ⟨1, 8, .other, .pv false (.sc .nilFunc)⟩ := by kernel_rfl
@[simp] theorem tyT132 : tyT 132 = some ⟨1, 8, .ptr 124, .pv false (.sc (.pointer none))⟩ := by kernel_rfl
@[simp] theorem tyT134 : tyT 134 = some ⟨1, 8, .other, .pv false (.sc .nilFunc)⟩ := by kernel_rfl
@[simp] theorem tyT135 : tyT 135 = some ⟨1, 8, .other, .pv false (.sc .nilFunc)⟩ := by kernel_rfl
@[simp] theorem tyT136 : tyT 136 = some ⟨1, 8, .other, .pv false (.sc .nilFunc)⟩ := by kernel_rfl
@[simp] theorem tyT137 : tyT 137 = some ⟨4, 40, .struct [(0, 17), (1, 17), (2, 17), (3, 9)], .ag [.pv false (.sc (.pointer none)), .pv false (.sc (.pointer none)), .pv false (.sc (.pointer none)), .pv false (.sc (.string ⟨#[]⟩))]⟩ := by kernel_rfl
@[simp] theorem tyT138 : tyT 138 = some ⟨4, 40, .struct [(0, 17), (1, 17), (2, 17), (3, 9)], .ag [.pv false (.sc (.pointer none)), .pv false (.sc (.pointer none)), .pv false (.sc (.pointer none)), .pv false (.sc (.string ⟨#[]⟩))]⟩ := by kernel_rfl
@[simp] theorem tyT139 : tyT 139 = some ⟨0, 0, .arr 0 16, .ar []⟩ := by kernel_rfl
@[simp] theorem tyT142 : tyT 142 = some ⟨1, 8, .other, .pv false (.sc .nilFunc)⟩ := by kernel_rfl
@[simp] theorem tyT143 : tyT 143 = some ⟨1, 1, .int .u8, .pv false (.sc (.int .u8 0))⟩ := by kernel_rfl
@[simp] theorem tyT144 : tyT 144 = some ⟨1, 1, .int .u8, .pv false (.sc (.int .u8 0))⟩ := by kernel_rfl
@[simp] theorem tyT145 : tyT 145 = some ⟨1, 8, .other, .pv false (.sc .nilFunc)⟩ := by kernel_rfl
@[simp] theorem tyT146 : tyT 146 = some ⟨1, 8, .ptr 5, .pv false (.sc (.pointer none))⟩ := by kernel_rfl
@[simp] theorem tyT147 : tyT 147 = some ⟨1, 4, .int .i32, .pv false (.sc (.int .i32 0))⟩ := by kernel_rfl
@[simp] theorem tyT148 : tyT 148 = some ⟨1, 4, .int .i32, .pv false (.sc (.int .i32 0))⟩ := by kernel_rfl
@[simp] theorem tyT149 : tyT 149 = some ⟨11, 48, .struct [(0, 12), (1, 12), (2, 115), (3, 143), (4, 5), (5, 5), (6, 144), (7, 145), (8, 146), (9, 147), (10, 148)], .ag [.pv false (.sc (.int .u64 0)), .pv false (.sc (.int .u64 0)), .pv false (.sc (.int .u32 0)), .pv false (.sc (.int .u8 0)), .pv false (.sc (.int .u8 0)), .pv false (.sc (.int .u8 0)), .pv false (.sc (.int .u8 0)), .pv false (.sc .nilFunc), .pv false (.sc (.pointer none)), .pv false (.sc (.int .i32 0)), .pv false (.sc (.int .i32 0))]⟩ := by kernel_rfl
@[simp] theorem tyT150 : tyT 150 = some ⟨11, 48, .struct [(0, 12), (1, 12), (2, 115), (3, 143), (4, 5), (5, 5), (6, 144), (7, 145), (8, 146), (9, 147), (10, 148)], .ag [.pv false (.sc (.int .u64 0)), .pv false (.sc (.int .u64 0)), .pv false (.sc (.int .u32 0)), .pv false (.sc (.int .u8 0)), .pv false (.sc (.int .u8 0)), .pv false (.sc (.int .u8 0)), .pv false (.sc (.int .u8 0)), .pv false (.sc .nilFunc), .pv false (.sc (.pointer none)), .pv false (.sc (.int .i32 0)), .pv false (.sc (.int .i32 0))]⟩ := by kernel_rfl
@[simp] theorem tyT151 : tyT 151 = some ⟨1, 8, .other, .pv false (.sc (.pointer none))⟩ := by kernel_rfl
@[simp] theorem sg0 : sgOf 0 = ⟨[], .d⟩ := rfl
@[simp] theorem sg1 : sgOf 1 = ⟨[], .d⟩ := rfl
@[simp] theorem sg2 : sgOf 2 = ⟨[], .d⟩ := rfl
@[simp] theorem sg3 : sgOf 3 = ⟨[], .d⟩ := rfl
@[simp] theorem sg4 : sgOf 4 = ⟨[], .d⟩ := rfl
@[simp] theorem sg5 : sgOf 5 = ⟨[], .d⟩ := rfl
@[simp] theorem sg6 : sgOf 6 = ⟨[], .d⟩ := rfl
@[simp] theorem sg7 : sgOf 7 = ⟨[], .d⟩ := rfl
@[simp] theorem sg8 : sgOf 8 = ⟨[], .d⟩ := rfl
@[simp] theorem sg9 : sgOf 9 = ⟨[], .d⟩ := rfl
@[simp] theorem sg10 : sgOf 10 = ⟨[], .d⟩ := rfl
@[simp] theorem sg11 : sgOf 11 = ⟨[], .d⟩ := rfl
@[simp] theorem sg12 : sgOf 12 = ⟨[], .d⟩ := rfl
@[simp] theorem sg13 : sgOf 13 = ⟨[], .d⟩ := rfl
@[simp] theorem sg14 : sgOf 14 = ⟨[], .d⟩ := rfl
@[simp] theorem sg15 : sgOf 15 = ⟨[], .d⟩ := rfl
@[simp] theorem sg16 : sgOf 16 = ⟨[], .d⟩ := rfl
@[simp] theorem sg17 : sgOf 17 = ⟨[], .d⟩ := rfl
@[simp] theorem sg18 : sgOf 18 = ⟨[], .d⟩ := rfl
@[simp] theorem sg19 : sgOf 19 = ⟨[], .ag [.d, .own 42 2]⟩ := rfl
@[simp] theorem sg20 : sgOf 20 = ⟨[], .tu [.ag [.d, .own 42 2], .d]⟩ := rfl
@[simp] theorem sg21 : sgOf 21 = ⟨[], .tu [.own 3 1, .d]⟩ := rfl
@[simp] theorem sg22 : sgOf 22 = ⟨[], .d⟩ := rfl
@[simp] theorem sg23 : sgOf 23 = ⟨[], .d⟩ := rfl
@[simp] theorem sg24 : sgOf 24 = ⟨[], .d⟩ := rfl
@[simp] theorem sg25 : sgOf 25 = ⟨[], .d⟩ := rfl
@[simp] theorem sg26 : sgOf 26 = ⟨[], .ag [.d, .own 42 2]⟩ := rfl
@[simp] theorem sg27 : sgOf 27 = ⟨[], .d⟩ := rfl
@[simp] theorem sg28 : sgOf 28 = ⟨[], .d⟩ := rfl
@[simp] theorem sg29 : sgOf 29 = ⟨[], .tu [.d, .d]⟩ := rfl
@[simp] theorem sg30 : sgOf 30 = ⟨[], .own 3 1⟩ := rfl
@[simp] theorem sg31 : sgOf 31 = ⟨[], .tu [.ag [.d, .own 42 2], .d]⟩ := rfl
@[simp] theorem sg32 : sgOf 32 = ⟨[], .d⟩ := rfl
@[simp] theorem sg33 : sgOf 33 = ⟨[true], .d⟩ := rfl
@[simp] theorem sg34 : sgOf 34 = ⟨[true], .d⟩ := rfl
@[simp] theorem sg35 : sgOf 35 = ⟨[], .d⟩ := rfl
@[simp] theorem sg36 : sgOf 36 = ⟨[], .tu [.d, .d]⟩ := rfl
@[simp] theorem sg37 : sgOf 37 = ⟨[], .d⟩ := rfl
@[simp] theorem sg38 : sgOf 38 = ⟨[], .d⟩ := rfl
@[simp] theorem sg39 : sgOf 39 = ⟨[], .own 3 1⟩ := rfl
@[simp] theorem sg40 : sgOf 40 = ⟨[], .tu [.d, .d]⟩ := rfl
@[simp] theorem sg41 : sgOf 41 = ⟨[], .tu [.d, .d]⟩ := rfl
@[simp] theorem sg42 : sgOf 42 = ⟨[], .tu [.ag [.d, .own 42 2], .d]⟩ := rfl
@[simp] theorem sg43 : sgOf 43 = ⟨[], .tu [.ag [.d, .own 42 2], .own 3 1]⟩ := rfl
@[simp] theorem sg44 : sgOf 44 = ⟨[], .own 3 1⟩ := rfl
@[simp] theorem sg45 : sgOf 45 = ⟨[], .d⟩ := rfl
@[simp] theorem sg46 : sgOf 46 = ⟨[], .ag [.d, .own 42 2]⟩ := rfl
@[simp] theorem sg47 : sgOf 47 = ⟨[], .d⟩ := rfl
@[simp] theorem sg48 : sgOf 48 = ⟨[], .d⟩ := rfl
@[simp] theorem sg49 : sgOf 49 = ⟨[], .d⟩ := rfl
@[simp] theorem sg50 : sgOf 50 = ⟨[], .d⟩ := rfl
@[simp] theorem sg51 : sgOf 51 = ⟨[], .d⟩ := rfl
@[simp] theorem sg52 : sgOf 52 = ⟨[], .d⟩ := rfl
@[simp] theorem sg53 : sgOf 53 = ⟨[], .d⟩ := rfl
@[simp] theorem sg54 : sgOf 54 = ⟨[true], .ag [.d, .own 42 2]⟩ := rfl
@[simp] theorem sg55 : sgOf 55 = ⟨[], .any⟩ := rfl
@[simp] theorem sg56 : sgOf 56 = ⟨[], .tu [.own 3 1, .d]⟩ := rfl
@[simp] theorem sg57 : sgOf 57 = ⟨[true], .own 42 2⟩ := rfl
@[simp] theorem sg58 : sgOf 58 = ⟨[], .d⟩ := rfl
@[simp] theorem sg59 : sgOf 59 = ⟨[], .d⟩ := rfl
@[simp] theorem sg60 : sgOf 60 = ⟨[], .d⟩ := rfl
@[simp] theorem sg61 : sgOf 61 = ⟨[], .d⟩ := rfl
@[simp] theorem sg62 : sgOf 62 = ⟨[], .d⟩ := rfl
@[simp] theorem sg63 : sgOf 63 = ⟨[], .own 42 2⟩ := rfl
@[simp] theorem sg64 : sgOf 64 = ⟨[], .d⟩ := rfl
@[simp] theorem sg65 : sgOf 65 = ⟨[], .d⟩ := rfl
@[simp] theorem sg66 : sgOf 66 = ⟨[], .d⟩ := rfl
@[simp] theorem sg67 : sgOf 67 = ⟨[true], .d⟩ := rfl
@[simp] theorem sg68 : sgOf 68 = ⟨[], .d⟩ := rfl
@[simp] theorem sg69 : sgOf 69 = ⟨[], .d⟩ := rfl
@[simp] theorem sg70 : sgOf 70 = ⟨[], .d⟩ := rfl
@[simp] theorem sg71 : sgOf 71 = ⟨[true], .d⟩ := rfl
@[simp] theorem sg72 : sgOf 72 = ⟨[], .d⟩ := rfl
@[simp] theorem sg73 : sgOf 73 = ⟨[true], .d⟩ := rfl
@[simp] theorem sg74 : sgOf 74 = ⟨[true], .d⟩ := rfl
@[simp] theorem sg75 : sgOf 75 = ⟨[], .d⟩ := rfl
@[simp] theorem sg76 : sgOf 76 = ⟨[], .d⟩ := rfl
@[simp] theorem sg77 : sgOf 77 = ⟨[true], .d⟩ := rfl
@[simp] theorem sg78 : sgOf 78 = ⟨[true], .own 3 1⟩ := rfl
@[simp] theorem sg79 : sgOf 79 = ⟨[], .d⟩ := rfl
@[simp] theorem sg80 : sgOf 80 = ⟨[], .d⟩ := rfl
@[simp] theorem sg81 : sgOf 81 = ⟨[true], .ag [.d, .own 42 2]⟩ := rfl
@[simp] theorem sg82 : sgOf 82 = ⟨[true], .d⟩ := rfl
@[simp] theorem sg83 : sgOf 83 = ⟨[], .d⟩ := rfl
@[simp] theorem sg84 : sgOf 84 = ⟨[], .d⟩ := rfl
@[simp] theorem sg85 : sgOf 85 = ⟨[], .d⟩ := rfl
@[simp] theorem sg86 : sgOf 86 = ⟨[], .d⟩ := rfl
@[simp] theorem sg87 : sgOf 87 = ⟨[], .d⟩ := rfl
@[simp] theorem sg88 : sgOf 88 = ⟨[], .d⟩ := rfl
@[simp] theorem sg89 : sgOf 89 = ⟨[], .d⟩ := rfl
@[simp] theorem sg90 : sgOf 90 = ⟨[], .d⟩ := rfl
@[simp] theorem sg91 : sgOf 91 = ⟨[], .d⟩ := rfl
@[simp] theorem sg92 : sgOf 92 = ⟨[true], .d⟩ := rfl
@[simp] theorem sg93 : sgOf 93 = ⟨[], .d⟩ := rfl
@[simp] theorem sg94 : sgOf 94 = ⟨[], .d⟩ := rfl
@[simp] theorem sg95 : sgOf 95 = ⟨[], .d⟩ := rfl
@[simp] theorem sg96 : sgOf 96 = ⟨[true, false], .own 42 2⟩ := rfl
@[simp] theorem sg97 : sgOf 97 = ⟨[], .d⟩ := rfl
@[simp] theorem sg98 : sgOf 98 = ⟨[], .d⟩ := rfl
@[simp] theorem sg99 : sgOf 99 = ⟨[], .d⟩ := rfl
@[simp] theorem sg100 : sgOf 100 = ⟨[], .d⟩ := rfl
@[simp] theorem sg101 : sgOf 101 = ⟨[], .d⟩ := rfl
@[simp] theorem sg102 : sgOf 102 = ⟨[], .d⟩ := rfl
@[simp] theorem sg103 : sgOf 103 = ⟨[], .d⟩ := rfl
@[simp] theorem sg104 : sgOf 104 = ⟨[], .d⟩ := rfl
@[simp] theorem sg105 : sgOf 105 = ⟨[], .d⟩ := rfl
@[simp] theorem sg106 : sgOf 106 = ⟨[], .d⟩ := rfl
@[simp] theorem sg107 : sgOf 107 = ⟨[], .d⟩ := rfl
@[simp] theorem sg108 : sgOf 108 = ⟨[], .d⟩ := rfl
@[simp] theorem sg109 : sgOf 109 = ⟨[], .d⟩ := rfl
@[simp] theorem sg110 : sgOf 110 = ⟨[], .d⟩ := rfl
@[simp] theorem sg111 : sgOf 111 = ⟨[], .d⟩ := rfl
@[simp] theorem sg112 : sgOf 112 = ⟨[], .d⟩ := rfl
@[simp] theorem sg113 : sgOf 113 = ⟨[], .d⟩ := rfl
@[simp] theorem sg114 : sgOf 114 = ⟨[], .d⟩ := rfl
@[simp] theorem sg115 : sgOf 115 = ⟨[], .d⟩ := rfl
@[simp] theorem sg116 : sgOf 116 = ⟨[], .d⟩ := rfl
@[simp] theorem sg117 : sgOf 117 = ⟨[], .d⟩ := rfl
@[simp] theorem sg118 : sgOf 118 = ⟨[], .d⟩ := rfl
@[simp] theorem sg119 : sgOf 119 = ⟨[], .d⟩ := rfl
@[simp] theorem sg120 : sgOf 120 = ⟨[], .d⟩ := rfl
@[simp] theorem sg121 : sgOf 121 = ⟨[], .d⟩ := rfl
@[simp] theorem sg122 : sgOf 122 = ⟨[], .d⟩ := rfl
@[simp] theorem sg123 : sgOf 123 = ⟨[], .d⟩ := rfl
@[simp] theorem sg124 : sgOf 124 = ⟨[], .d⟩ := rfl
@[simp] theorem sg125 : sgOf 125 = ⟨[], .d⟩ := rfl
@[simp] theorem sg126 : sgOf 126 = ⟨[], .d⟩ := rfl
@[simp] theorem sg127 : sgOf 127 = ⟨[], .d⟩ := rfl
@[simp] theorem sg128 : sgOf 128 = ⟨[], .d⟩ := rfl
@[simp] theorem sg129 : sgOf 129 = ⟨[], .d⟩ := rfl
@[simp] theorem sg130 : sgOf 130 = ⟨[], .d⟩ := rfl
@[simp] theorem sg131 : sgOf 131 = ⟨[], .d⟩ := rfl
@[simp] theorem sg132 : sgOf 132 = ⟨[], .d⟩ := rfl
@[simp] theorem sg133 : sgOf 133 = ⟨[], .d⟩ := rfl
@[simp] theorem sg134 : sgOf 134 = ⟨[], .d⟩ := rfl
@[simp] theorem sg135 : sgOf 135 = ⟨[], .d⟩ := rfl
@[simp] theorem sg136 : sgOf 136 = ⟨[], .d⟩ := rfl
@[simp] theorem sg137 : sgOf 137 = ⟨[], .d⟩ := rfl
@[simp] theorem sg138 : sgOf 138 = ⟨[], .d⟩ := rfl
@[simp] theorem sg139 : sgOf 139 = ⟨[], .d⟩ := rfl
@[simp] theorem sg140 : sgOf 140 = ⟨[], .d⟩ := rfl
@[simp] theorem sg141 : sgOf 141 = ⟨[], .d⟩ := rfl
@[simp] theorem sg142 : sgOf 142 = ⟨[], .d⟩ := rfl
@[simp] theorem sg143 : sgOf 143 = ⟨[], .d⟩ := rfl
theorem mixed : Try.prog.follows .mixedOrders = true := by kernel_rfl
theorem names_ok : (Try.prog.funcs.all fun fn => !(fn.name == "runtime.NumGoroutine")) = true := by kernel_rfl
theorem dsts_ok : (Try.prog.funcs.all fun fn => match fn.body with | some c => codeOk fn.ntmps c | none => true) = true := by kernel_rfl
theorem plan3_10 : plan ((opsOf 10 (code Try.f3)).getD #[]) = some (.lt 0 (.lt 1 (.hv 2 [0] (.hv 3 [] (.lt 4 (.fin)) (.no)) (.no)))) := by kernel_rfl
theorem plan4_12 : plan ((opsOf 12 (code Try.f4)).getD #[]) = some (.lt 0 (.lt 1 (.lt 2 (.lt 4 (.lt 5 (.lt 6 (.hv 3 [6, 5, 4] (.hv 7 [] (.lt 8 (.fin)) (.no)) (.no)))))))) := by kernel_rfl
theorem plan5_10 : plan ((opsOf 10 (code Try.f5)).getD #[]) = some (.lt 0 (.lt 1 (.hv 2 [0] (.hv 3 [] (.lt 4 (.fin)) (.no)) (.no)))) := by kernel_rfl
theorem plan6_13 : plan ((opsOf 13 (code Try.f6)).getD #[]) = some (.lt 0 (.lt 1 (.hv 2 [0] (.hv 3 [] (.lt 4 (.fin)) (.no)) (.no)))) := by kernel_rfl
theorem plan7_10 : plan ((opsOf 10 (code Try.f7)).getD #[]) = some (.lt 0 (.lt 1 (.hv 2 [0] (.hv 3 [] (.lt 4 (.fin)) (.no)) (.no)))) := by kernel_rfl
theorem plan8_10 : plan ((opsOf 10 (code Try.f8)).getD #[]) = some (.lt 0 (.lt 1 (.hv 2 [0] (.hv 3 [] (.lt 4 (.fin)) (.no)) (.no)))) := by kernel_rfl
theorem plan9_10 : plan ((opsOf 10 (code Try.f9)).getD #[]) = some (.lt 0 (.lt 1 (.hv 2 [0] (.hv 3 [] (.lt 4 (.fin)) (.no)) (.no)))) := by kernel_rfl
theorem plan10_10 : plan ((opsOf 10 (code Try.f10)).getD #[]) = some (.lt 0 (.lt 1 (.hv 2 [0] (.hv 3 [] (.lt 4 (.fin)) (.no)) (.no)))) := by kernel_rfl
theorem plan11_9 : plan ((opsOf 9 (code Try.f11)).getD #[]) = some (.lt 0 (.lt 1 (.lt 2 (.lt 3 (.lt 4 (.lt 5 (.lt 6 (.lt 7 (.lt 8 (.lt 9 (.lt 10 (.lt 11 (.lt 12 (.lt 13 (.lt 14 (.lt 15 (.lt 16 (.lt 17 (.lt 18 (.lt 19 (.lt 20 (.lt 21 (.lt 22 (.lt 23 (.lt 24 (.lt 25 (.lt 26 (.lt 27 (.lt 28 (.lt 29 (.fin))))))))))))))))))))))))))))))) := by kernel_rfl
theorem plan12_15 : plan ((opsOf 15 (code Try.f12)).getD #[]) = some (.lt 0 (.lt 1 (.lt 2 (.lt 3 (.lt 4 (.lt 5 (.lt 6 (.lt 7 (.lt 8 (.lt 9 (.lt 10 (.lt 11 (.lt 12 (.lt 13 (.lt 14 (.lt 15 (.lt 16 (.lt 17 (.lt 18 (.lt 19 (.lt 20 (.lt 21 (.lt 22 (.lt 23 (.fin))))))))))))))))))))))))) := by kernel_rfl
theorem plan12_22 : plan ((opsOf 22 (code Try.f12)).getD #[]) = some (.lt 0 (.lt 1 (.lt 2 (.lt 3 (.lt 4 (.lt 5 (.lt 6 (.lt 7 (.lt 8 (.lt 9 (.lt 10 (.lt 11 (.lt 12 (.lt 13 (.lt 14 (.lt 16 (.lt 17 (.lt 18 (.hv 15 [18, 17, 16] (.hv 19 [] (.lt 20 (.lt 21 (.fin))) (.no)) (.no)))))))))))))))))))) := by kernel_rfl
theorem plan13_13 : plan ((opsOf 13 (code Try.f13)).getD #[]) = some (.lt 0 (.lt 1 (.hv 2 [0] (.hv 3 [] (.lt 4 (.fin)) (.no)) (.no)))) := by kernel_rfl
theorem plan20_8 : plan ((opsOf 8 (code Try.f20)).getD #[]) = some (.lt 0 (.lt 1 (.lt 3 (.lt 4 (.lt 6 (.lt 7 (.lt 8 (.hv 2 [8, 7, 6, 4, 3, 1, 0] (.hv 5 [8, 7, 6, 1, 0] (.hv 9 [1, 0] (.lt 10 (.hv 11 [10, 8, 7, 6, 4, 3, 1, 0] (.hv 12 [] (.fin) (.no)) (.no))) (.hv 11 [8, 7, 6, 4, 3, 1, 0] (.hv 9 [1, 0] (.lt 10 (.hv 12 [] (.fin) (.no))) (.no)) (.no))) (.hv 11 [8, 7, 6, 4, 3, 1, 0] (.hv 5 [8, 7, 6, 1, 0] (.hv 9 [1, 0] (.lt 10 (.hv 12 [] (.fin) (.no))) (.no)) (.no)) (.no))) (.hv 11 [8, 7, 6, 4, 3, 1, 0] (.hv 2 [8, 7, 6, 4, 3, 1, 0] (.hv 5 [8, 7, 6, 1, 0] (.hv 9 [1, 0] (.lt 10 (.hv 12 [] (.fin) (.no))) (.no)) (.no)) (.no)) (.no)))))))))) := by kernel_rfl
theorem plan20_9 : plan ((opsOf 9 (code Try.f20)).getD #[]) = some (.lt 0 (.lt 1 (.lt 2 (.lt 4 (.lt 5 (.hv 3 [5, 4] (.lt 6 (.lt 7 (.fin))) (.no))))))) := by kernel_rfl
theorem plan25_14 : plan ((opsOf 14 (code Try.f25)).getD #[]) = some (.lt 0 (.lt 1 (.lt 2 (.lt 3 (.lt 4 (.lt 5 (.lt 6 (.lt 7 (.lt 8 (.lt 9 (.lt 10 (.lt 11 (.lt 12 (.lt 13 (.lt 14 (.lt 15 (.lt 16 (.lt 17 (.lt 18 (.lt 19 (.lt 20 (.fin)))))))))))))))))))))) := by kernel_rfl
theorem plan25_15 : plan ((opsOf 15 (code Try.f25)).getD #[]) = some (.lt 0 (.lt 1 (.lt 2 (.lt 3 (.lt 4 (.lt 5 (.lt 6 (.lt 7 (.lt 8 (.lt 9 (.hv 10 [] (.fin) (.no)))))))))))) := by kernel_rfl
theorem plan27_12 : plan ((opsOf 12 (code Try.f27)).getD #[]) = some (.lt 0 (.lt 1 (.lt 2 (.lt 3 (.lt 4 (.lt 5 (.lt 6 (.lt 7 (.lt 8 (.lt 9 (.lt 10 (.lt 11 (.lt 12 (.lt 13 (.lt 14 (.hv 15 [] (.fin) (.no))))))))))))))))) := by kernel_rfl
theorem plan29_8 : plan ((opsOf 8 (code Try.f29)).getD #[]) = some (.lt 0 (.lt 1 (.lt 2 (.lt 3 (.lt 4 (.lt 5 (.lt 6 (.hv 7 [1, 0] (.hv 8 [] (.lt 9 (.hv 10 [] (.fin) (.no))) (.no)) (.no))))))))) := by kernel_rfl
theorem plan32_6 : plan ((opsOf 6 (code Try.f32)).getD #[]) = some (.lt 0 (.lt 1 (.lt 2 (.lt 3 (.lt 4 (.lt 5 (.lt 6 (.lt 7 (.lt 8 (.fin)))))))))) := by kernel_rfl
theorem plan40_1 : plan ((opsOf 1 (code Try.f40)).getD #[]) = some (.lt 0 (.hv 1 [] (.lt 2 (.lt 3 (.lt 4 (.lt 7 (.lt 8 (.hv 5 [8, 7] (.lt 6 (.lt 9 (.lt 10 (.fin)))) (.no))))))) (.no))) := by kernel_rfl
theorem plan40_7 : plan ((opsOf 7 (code Try.f40)).getD #[]) = some (.lt 0 (.lt 1 (.lt 2 (.lt 3 (.lt 4 (.lt 5 (.lt 6 (.lt 7 (.lt 8 (.lt 9 (.lt 10 (.lt 11 (.lt 12 (.lt 13 (.hv 14 [] (.lt 15 (.fin)) (.no)))))))))))))))) := by kernel_rfl
theorem plan40_8 : plan ((opsOf 8 (code Try.f40)).getD #[]) = some (.lt 0 (.lt 1 (.lt 2 (.lt 3 (.lt 4 (.lt 5 (.lt 6 (.hv 7 [1, 0] (.hv 8 [] (.lt 9 (.hv 10 [] (.fin) (.no))) (.no)) (.no))))))))) := by kernel_rfl
theorem plan41_11 : plan ((opsOf 11 (code Try.f41)).getD #[]) = some (.lt 0 (.lt 1 (.lt 2 (.lt 3 (.lt 4 (.lt 5 (.lt 6 (.lt 7 (.lt 8 (.lt 9 (.hv 10 [1, 0] (.hv 11 [3] (.lt 12 (.hv 13 [] (.fin) (.no))) (.no)) (.no)))))))))))) := by kernel_rfl
theorem plan45_7 : plan ((opsOf 7 (code Try.f45)).getD #[]) = some (.lt 0 (.lt 1 (.lt 2 (.lt 3 (.lt 4 (.lt 5 (.lt 6 (.lt 7 (.lt 8 (.lt 9 (.lt 10 (.lt 11 (.lt 12 (.lt 13 (.lt 14 (.lt 15 (.lt 16 (.lt 17 (.lt 18 (.lt 19 (.lt 20 (.lt 21 (.lt 22 (.lt 23 (.lt 24 (.lt 25 (.lt 26 (.lt 27 (.lt 28 (.lt 29 (.lt 30 (.lt 31 (.lt 32 (.hv 33 [11, 7, 6, 5, 4, 1, 0] (.lt 34 (.lt 35 (.lt 36 (.fin)))) (.no))))))))))))))))))))))))))))))))))) := by kernel_rfl
theorem plan47_6 : plan ((opsOf 6 (code Try.f47)).getD #[]) = some (.lt 0 (.lt 1 (.lt 2 (.lt 3 (.lt 4 (.lt 5 (.lt 6 (.lt 7 (.lt 8 (.lt 9 (.lt 10 (.lt 11 (.lt 12 (.lt 13 (.fin))))))))))))))) := by kernel_rfl
theorem plan53_6 : plan ((opsOf 6 (code Try.f53)).getD #[]) = some (.lt 0 (.lt 1 (.lt 2 (.lt 3 (.lt 4 (.lt 5 (.lt 6 (.lt 7 (.lt 8 (.fin)))))))))) := by kernel_rfl
theorem plan54_8 : plan ((opsOf 8 (code Try.f54)).getD #[]) = some (.lt 0 (.lt 1 (.lt 2 (.lt 4 (.hv 3 [4, 1, 0] (.hv 5 [1, 0] (.lt 6 (.hv 7 [1, 0] (.hv 8 [] (.lt 9 (.hv 10 [] (.fin) (.no))) (.no)) (.no))) (.no)) (.no)))))) := by kernel_rfl
theorem plan57_5 : plan ((opsOf 5 (code Try.f57)).getD #[]) = some (.lt 0 (.lt 1 (.lt 2 (.lt 3 (.lt 4 (.lt 5 (.hv 6 [] (.lt 7 (.fin)) (.no)))))))) := by kernel_rfl
theorem plan59_4 : plan ((opsOf 4 (code Try.f59)).getD #[]) = some (.lt 0 (.lt 1 (.lt 2 (.lt 3 (.lt 4 (.hv 5 [] (.lt 6 (.lt 7 (.lt 8 (.lt 9 (.lt 10 (.lt 11 (.lt 12 (.hv 13 [] (.lt 14 (.lt 15 (.lt 16 (.lt 17 (.lt 18 (.lt 19 (.lt 20 (.lt 21 (.lt 22 (.lt 23 (.lt 24 (.lt 25 (.lt 26 (.hv 27 [3, 2, 0] (.lt 28 (.lt 29 (.lt 30 (.fin)))) (.no))))))))))))))) (.no))))))))) (.no))))))) := by kernel_rfl
theorem plan64_6 : plan ((opsOf 6 (code Try.f64)).getD #[]) = some (.lt 0 (.lt 1 (.lt 2 (.lt 3 (.lt 4 (.lt 5 (.lt 6 (.lt 7 (.hv 8 [] (.lt 9 (.fin)) (.no)))))))))) := by kernel_rfl
theorem plan70_7 : plan ((opsOf 7 (code Try.f70)).getD #[]) = some (.lt 0 (.lt 1 (.lt 2 (.lt 3 (.lt 4 (.lt 5 (.lt 6 (.hv 7 [1, 0] (.hv 8 [] (.lt 9 (.hv 10 [] (.fin) (.no))) (.no)) (.no))))))))) := by kernel_rfl
theorem plan72_1 : plan ((opsOf 1 (code Try.f72)).getD #[]) = some (.lt 0 (.lt 1 (.lt 2 (.lt 3 (.lt 5 (.lt 6 (.lt 7 (.lt 8 (.hv 4 [8, 7, 6, 5] (.hv 9 [] (.hv 10 [] (.hv 11 [] (.lt 12 (.fin)) (.no)) (.no)) (.no)) (.no)))))))))) := by kernel_rfl
theorem plan78_6 : plan ((opsOf 6 (code Try.f78)).getD #[]) = some (.lt 0 (.lt 1 (.lt 2 (.lt 3 (.lt 4 (.lt 5 (.lt 6 (.lt 7 (.lt 8 (.lt 9 (.fin))))))))))) := by kernel_rfl
theorem plan78_11 : plan ((opsOf 11 (code Try.f78)).getD #[]) = some (.lt 0 (.lt 1 (.lt 2 (.lt 3 (.lt 4 (.lt 5 (.lt 6 (.lt 7 (.lt 8 (.lt 9 (.fin))))))))))) := by kernel_rfl
theorem plan81_6 : plan ((opsOf 6 (code Try.f81)).getD #[]) = some (.lt 0 (.lt 1 (.lt 2 (.lt 4 (.lt 5 (.lt 6 (.hv 3 [6, 5, 4] (.hv 7 [] (.lt 8 (.hv 9 [8, 6, 5, 4, 2, 1, 0] (.hv 10 [] (.fin) (.no)) (.no))) (.hv 9 [6, 5, 4, 2, 1, 0] (.hv 7 [] (.lt 8 (.hv 10 [] (.fin) (.no))) (.no)) (.no))) (.hv 9 [6, 5, 4, 2, 1, 0] (.hv 3 [6, 5, 4] (.hv 7 [] (.lt 8 (.hv 10 [] (.fin) (.no))) (.no)) (.no)) (.no))))))))) := by kernel_rfl
theorem plan88_17 : plan ((opsOf 17 (code Try.f88)).getD #[]) = some (.lt 0 (.lt 1 (.lt 2 (.lt 3 (.lt 4 (.lt 5 (.lt 6 (.lt 7 (.lt 8 (.lt 9 (.lt 10 (.lt 11 (.lt 12 (.hv 13 [] (.lt 14 (.lt 15 (.lt 16 (.fin)))) (.no))))))))))))))) := by kernel_rfl
theorem plan92_2 : plan ((opsOf 2 (code Try.f92)).getD #[]) = some (.lt 0 (.lt 1 (.lt 2 (.lt 3 (.lt 4 (.lt 5 (.lt 6 (.lt 7 (.lt 8 (.lt 9 (.lt 10 (.lt 11 (.lt 12 (.fin)))))))))))))) := by kernel_rfl
theorem plan92_3 : plan ((opsOf 3 (code Try.f92)).getD #[]) = some (.lt 0 (.lt 1 (.lt 2 (.lt 3 (.lt 4 (.lt 5 (.lt 6 (.lt 7 (.lt 8 (.lt 9 (.fin))))))))))) := by kernel_rfl
theorem plan92_4 : plan ((opsOf 4 (code Try.f92)).getD #[]) = some (.lt 0 (.lt 1 (.lt 2 (.lt 3 (.lt 4 (.lt 5 (.lt 6 (.lt 7 (.lt 8 (.lt 9 (.lt 10 (.lt 11 (.lt 12 (.lt 13 (.lt 14 (.fin)))))))))))))))) := by kernel_rfl
theorem plan94_17 : plan ((opsOf 17 (code Try.f94)).getD #[]) = some (.lt 0 (.lt 1 (.lt 2 (.lt 3 (.lt 4 (.lt 5 (.lt 6 (.lt 7 (.lt 8 (.lt 9 (.lt 10 (.lt 11 (.hv 12 [] (.lt 13 (.lt 14 (.fin))) (.no)))))))))))))) := by kernel_rfl
theorem plan96_2 : plan ((opsOf 2 (code Try.f96)).getD #[]) = some (.lt 0 (.lt 1 (.lt 2 (.lt 3 (.lt 4 (.lt 5 (.lt 6 (.lt 7 (.lt 8 (.lt 9 (.hv 10 [] (.lt 11 (.fin)) (.no)))))))))))) := by kernel_rfl
theorem plan96_4 : plan ((opsOf 4 (code Try.f96)).getD #[]) = some (.lt 0 (.lt 1 (.lt 2 (.lt 3 (.lt 4 (.lt 5 (.lt 6 (.lt 7 (.lt 8 (.lt 9 (.lt 10 (.lt 11 (.fin))))))))))))) := by kernel_rfl
theorem plan98_4 : plan ((opsOf 4 (code Try.f98)).getD #[]) = some (.lt 0 (.lt 1 (.lt 2 (.lt 3 (.lt 4 (.lt 5 (.lt 6 (.lt 7 (.lt 8 (.lt 9 (.lt 10 (.lt 11 (.lt 12 (.lt 13 (.hv 14 [] (.lt 15 (.lt 16 (.fin))) (.no)))))))))))))))) := by kernel_rfl
theorem plan98_6 : plan ((opsOf 6 (code Try.f98)).getD #[]) = some (.lt 0 (.lt 1 (.lt 2 (.lt 3 (.lt 4 (.lt 5 (.lt 6 (.lt 7 (.lt 8 (.lt 9 (.lt 10 (.lt 11 (.lt 12 (.lt 13 (.lt 14 (.hv 15 [4, 3, 2] (.lt 16 (.hv 17 [] (.fin) (.no))) (.no))))))))))))))))) := by kernel_rfl
theorem plan99_10 : plan ((opsOf 10 (code Try.f99)).getD #[]) = some (.lt 0 (.lt 1 (.lt 2 (.lt 3 (.lt 4 (.lt 5 (.lt 6 (.lt 7 (.lt 8 (.lt 9 (.lt 10 (.lt 11 (.lt 12 (.lt 13 (.lt 14 (.lt 15 (.lt 16 (.hv 17 [5, 4, 3, 2] (.lt 18 (.hv 19 [] (.fin) (.no))) (.no))))))))))))))))))) := by kernel_rfl
theorem plan100_10 : plan ((opsOf 10 (code Try.f100)).getD #[]) = some (.lt 0 (.lt 1 (.lt 2 (.lt 3 (.lt 4 (.lt 5 (.lt 6 (.lt 7 (.lt 8 (.lt 9 (.lt 10 (.lt 11 (.lt 12 (.lt 13 (.lt 14 (.lt 15 (.lt 16 (.hv 17 [5, 4, 3, 2] (.lt 18 (.hv 19 [] (.fin) (.no))) (.no))))))))))))))))))) := by kernel_rfl
theorem plan102_3 : plan ((opsOf 3 (code Try.f102)).getD #[]) = some (.lt 0 (.lt 1 (.lt 2 (.lt 3 (.lt 4 (.lt 5 (.lt 6 (.lt 7 (.lt 8 (.lt 9 (.lt 10 (.lt 11 (.lt 12 (.hv 13 [3, 2] (.lt 14 (.hv 15 [] (.fin) (.no))) (.no))))))))))))))) := by kernel_rfl
theorem plan103_5 : plan ((opsOf 5 (code Try.f103)).getD #[]) = some (.lt 0 (.lt 1 (.lt 2 (.lt 3 (.lt 4 (.lt 5 (.lt 6 (.lt 7 (.lt 8 (.lt 9 (.lt 10 (.lt 11 (.lt 12 (.lt 13 (.hv 14 [] (.lt 15 (.lt 16 (.lt 17 (.fin)))) (.no)))))))))))))))) := by kernel_rfl
theorem plan103_11 : plan ((opsOf 11 (code Try.f103)).getD #[]) = some (.lt 0 (.lt 1 (.lt 2 (.lt 3 (.lt 4 (.lt 5 (.lt 6 (.lt 7 (.lt 8 (.lt 9 (.lt 10 (.lt 11 (.lt 12 (.lt 13 (.lt 14 (.hv 15 [4, 3, 2] (.lt 16 (.hv 17 [] (.fin) (.no))) (.no))))))))))))))))) := by kernel_rfl
theorem plan103_16 : plan ((opsOf 16 (code Try.f103)).getD #[]) = some (.lt 0 (.lt 1 (.lt 2 (.lt 3 (.lt 4 (.lt 5 (.lt 6 (.lt 7 (.lt 8 (.lt 9 (.hv 10 [] (.lt 11 (.lt 12 (.fin))) (.no)))))))))))) := by kernel_rfl
theorem plan103_17 : plan ((opsOf 17 (code Try.f103)).getD #[]) = some (.lt 0 (.lt 1 (.lt 2 (.lt 3 (.lt 4 (.lt 5 (.lt 6 (.lt 7 (.lt 8 (.lt 9 (.lt 10 (.lt 11 (.lt 12 (.lt 13 (.lt 14 (.hv 15 [4, 3, 2] (.lt 16 (.hv 17 [] (.fin) (.no))) (.no))))))))))))))))) := by kernel_rfl
theorem plan103_22 : plan ((opsOf 22 (code Try.f103)).getD #[]) = some (.lt 0 (.lt 1 (.lt 2 (.lt 3 (.lt 4 (.lt 5 (.lt 6 (.lt 7 (.lt 8 (.lt 9 (.hv 10 [] (.lt 11 (.lt 12 (.fin))) (.no)))))))))))) := by kernel_rfl
theorem plan103_23 : plan ((opsOf 23 (code Try.f103)).getD #[]) = some (.lt 0 (.lt 1 (.lt 2 (.lt 3 (.lt 4 (.lt 5 (.lt 6 (.lt 7 (.lt 8 (.lt 9 (.lt 10 (.lt 11 (.lt 12 (.lt 13 (.lt 14 (.hv 15 [4, 3, 2] (.lt 16 (.hv 17 [] (.fin) (.no))) (.no))))))))))))))))) := by kernel_rfl
theorem plan104_1 : plan ((opsOf 1 (code Try.f104)).getD #[]) = some (.lt 0 (.lt 1 (.lt 2 (.lt 3 (.lt 4 (.lt 5 (.lt 6 (.lt 7 (.lt 8 (.lt 9 (.lt 10 (.lt 11 (.lt 12 (.hv 13 [3, 2] (.lt 14 (.hv 15 [] (.fin) (.no))) (.no))))))))))))))) := by kernel_rfl
theorem plan104_3 : plan ((opsOf 3 (code Try.f104)).getD #[]) = some (.lt 0 (.lt 1 (.lt 2 (.lt 3 (.lt 4 (.lt 5 (.lt 6 (.lt 7 (.lt 8 (.lt 9 (.lt 10 (.lt 11 (.lt 12 (.hv 13 [] (.lt 14 (.lt 15 (.lt 16 (.fin)))) (.no))))))))))))))) := by kernel_rfl
theorem plan104_5 : plan ((opsOf 5 (code Try.f104)).getD #[]) = some (.lt 0 (.lt 1 (.lt 2 (.lt 3 (.lt 4 (.lt 5 (.lt 6 (.lt 7 (.lt 8 (.lt 9 (.lt 10 (.lt 11 (.lt 12 (.hv 13 [] (.lt 14 (.lt 15 (.fin))) (.no))))))))))))))) := by kernel_rfl
theorem plan104_8 : plan ((opsOf 8 (code Try.f104)).getD #[]) = some (.lt 0 (.lt 1 (.lt 2 (.lt 3 (.lt 4 (.lt 5 (.lt 6 (.lt 7 (.lt 8 (.lt 9 (.lt 10 (.lt 11 (.lt 12 (.hv 13 [3, 2] (.lt 14 (.hv 15 [] (.fin) (.no))) (.no))))))))))))))) := by kernel_rfl
theorem plan105_1 : plan ((opsOf 1 (code Try.f105)).getD #[]) = some (.lt 0 (.lt 1 (.lt 2 (.lt 3 (.lt 4 (.lt 5 (.lt 6 (.lt 7 (.lt 8 (.lt 9 (.lt 10 (.lt 11 (.lt 12 (.hv 13 [3, 2] (.lt 14 (.hv 15 [] (.fin) (.no))) (.no))))))))))))))) := by kernel_rfl
theorem plan105_3 : plan ((opsOf 3 (code Try.f105)).getD #[]) = some (.lt 0 (.lt 1 (.lt 2 (.lt 3 (.lt 4 (.lt 5 (.lt 6 (.lt 7 (.lt 8 (.lt 9 (.lt 10 (.lt 11 (.lt 12 (.hv 13 [] (.lt 14 (.lt 15 (.fin))) (.no))))))))))))))) := by kernel_rfl
theorem plan105_5 : plan ((opsOf 5 (code Try.f105)).getD #[]) = some (.lt 0 (.lt 1 (.lt 2 (.lt 3 (.lt 4 (.lt 5 (.lt 6 (.lt 7 (.lt 8 (.lt 9 (.lt 10 (.lt 11 (.lt 12 (.hv 13 [] (.lt 14 (.lt 15 (.lt 16 (.fin)))) (.no))))))))))))))) := by kernel_rfl
theorem plan105_8 : plan ((opsOf 8 (code Try.f105)).getD #[]) = some (.lt 0 (.lt 1 (.lt 2 (.lt 3 (.lt 4 (.lt 5 (.lt 6 (.lt 7 (.lt 8 (.lt 9 (.lt 10 (.lt 11 (.lt 12 (.hv 13 [3, 2] (.lt 14 (.hv 15 [] (.fin) (.no))) (.no))))))))))))))) := by kernel_rfl
theorem plan105_10 : plan ((opsOf 10 (code Try.f105)).getD #[]) = some (.lt 0 (.lt 1 (.lt 2 (.lt 3 (.lt 4 (.lt 5 (.lt 6 (.lt 7 (.lt 8 (.lt 9 (.lt 10 (.lt 11 (.lt 12 (.hv 13 [3, 2] (.lt 14 (.hv 15 [] (.fin) (.no))) (.no))))))))))))))) := by kernel_rfl
theorem plan105_13 : plan ((opsOf 13 (code Try.f105)).getD #[]) = some (.lt 0 (.lt 1 (.lt 2 (.lt 3 (.lt 4 (.lt 5 (.lt 6 (.lt 7 (.lt 8 (.lt 9 (.lt 10 (.lt 11 (.lt 12 (.hv 13 [] (.lt 14 (.lt 15 (.fin))) (.no))))))))))))))) := by kernel_rfl
theorem plan105_15 : plan ((opsOf 15 (code Try.f105)).getD #[]) = some (.lt 0 (.lt 1 (.lt 2 (.lt 3 (.lt 4 (.lt 5 (.lt 6 (.lt 7 (.lt 8 (.lt 9 (.lt 10 (.lt 11 (.lt 12 (.hv 13 [] (.lt 14 (.lt 15 (.lt 16 (.fin)))) (.no))))))))))))))) := by kernel_rfl
theorem plan105_18 : plan ((opsOf 18 (code Try.f105)).getD #[]) = some (.lt 0 (.lt 1 (.lt 2 (.lt 3 (.lt 4 (.lt 5 (.lt 6 (.lt 7 (.lt 8 (.lt 9 (.lt 10 (.lt 11 (.lt 12 (.hv 13 [3, 2] (.lt 14 (.hv 15 [] (.fin) (.no))) (.no))))))))))))))) := by kernel_rfl
theorem plan105_21 : plan ((opsOf 21 (code Try.f105)).getD #[]) = some (.lt 0 (.lt 1 (.lt 2 (.lt 3 (.lt 4 (.lt 5 (.lt 6 (.lt 7 (.lt 8 (.lt 9 (.lt 10 (.lt 11 (.lt 12 (.hv 13 [3, 2] (.lt 14 (.hv 15 [] (.fin) (.no))) (.no))))))))))))))) := by kernel_rfl
theorem plan109_4 : plan ((opsOf 4 (code Try.f109)).getD #[]) = some (.lt 0 (.lt 1 (.lt 2 (.lt 3 (.lt 4 (.lt 5 (.lt 6 (.lt 7 (.lt 8 (.lt 9 (.lt 10 (.lt 11 (.lt 12 (.hv 13 [] (.lt 14 (.fin)) (.no))))))))))))))) := by kernel_rfl
theorem plan109_6 : plan ((opsOf 6 (code Try.f109)).getD #[]) = some (.lt 0 (.lt 1 (.lt 2 (.lt 3 (.lt 4 (.lt 5 (.lt 6 (.lt 7 (.lt 8 (.lt 9 (.lt 10 (.lt 11 (.lt 12 (.lt 13 (.lt 14 (.hv 15 [4, 3, 2] (.lt 16 (.hv 17 [] (.fin) (.no))) (.no))))))))))))))))) := by kernel_rfl
theorem plan110_10 : plan ((opsOf 10 (code Try.f110)).getD #[]) = some (.lt 0 (.lt 1 (.lt 2 (.lt 3 (.lt 4 (.lt 5 (.lt 6 (.lt 7 (.lt 8 (.lt 9 (.lt 10 (.lt 11 (.lt 12 (.lt 13 (.lt 14 (.lt 15 (.lt 16 (.hv 17 [5, 4, 3, 2] (.lt 18 (.hv 19 [] (.fin) (.no))) (.no))))))))))))))))))) := by kernel_rfl
theorem plan111_10 : plan ((opsOf 10 (code Try.f111)).getD #[]) = some (.lt 0 (.lt 1 (.lt 2 (.lt 3 (.lt 4 (.lt 5 (.lt 6 (.lt 7 (.lt 8 (.lt 9 (.lt 10 (.lt 11 (.lt 12 (.lt 13 (.lt 14 (.lt 15 (.lt 16 (.hv 17 [5, 4, 3, 2] (.lt 18 (.hv 19 [] (.fin) (.no))) (.no))))))))))))))))))) := by kernel_rfl
theorem plan113_3 : plan ((opsOf 3 (code Try.f113)).getD #[]) = some (.lt 0 (.lt 1 (.lt 2 (.lt 3 (.lt 4 (.lt 5 (.lt 6 (.lt 7 (.lt 8 (.lt 9 (.lt 10 (.lt 11 (.lt 12 (.hv 13 [3, 2] (.lt 14 (.hv 15 [] (.fin) (.no))) (.no))))))))))))))) := by kernel_rfl
theorem plan114_5 : plan ((opsOf 5 (code Try.f114)).getD #[]) = some (.lt 0 (.lt 1 (.lt 2 (.lt 3 (.lt 4 (.lt 5 (.lt 6 (.lt 7 (.lt 8 (.lt 9 (.lt 10 (.lt 11 (.lt 12 (.hv 13 [] (.lt 14 (.lt 15 (.fin))) (.no))))))))))))))) := by kernel_rfl
theorem plan114_11 : plan ((opsOf 11 (code Try.f114)).getD #[]) = some (.lt 0 (.lt 1 (.lt 2 (.lt 3 (.lt 4 (.lt 5 (.lt 6 (.lt 7 (.lt 8 (.lt 9 (.lt 10 (.lt 11 (.lt 12 (.lt 13 (.lt 14 (.hv 15 [4, 3, 2] (.lt 16 (.hv 17 [] (.fin) (.no))) (.no))))))))))))))))) := by kernel_rfl
theorem plan114_16 : plan ((opsOf 16 (code Try.f114)).getD #[]) = some (.lt 0 (.lt 1 (.lt 2 (.lt 3 (.lt 4 (.lt 5 (.lt 6 (.lt 7 (.lt 8 (.hv 9 [] (.lt 10 (.fin)) (.no))))))))))) := by kernel_rfl
theorem plan114_17 : plan ((opsOf 17 (code Try.f114)).getD #[]) = some (.lt 0 (.lt 1 (.lt 2 (.lt 3 (.lt 4 (.lt 5 (.lt 6 (.lt 7 (.lt 8 (.lt 9 (.lt 10 (.lt 11 (.lt 12 (.lt 13 (.lt 14 (.hv 15 [4, 3, 2] (.lt 16 (.hv 17 [] (.fin) (.no))) (.no))))))))))))))))) := by kernel_rfl
theorem plan114_22 : plan ((opsOf 22 (code Try.f114)).getD #[]) = some (.lt 0 (.lt 1 (.lt 2 (.lt 3 (.lt 4 (.lt 5 (.lt 6 (.lt 7 (.lt 8 (.hv 9 [] (.lt 10 (.fin)) (.no))))))))))) := by kernel_rfl
theorem plan114_23 : plan ((opsOf 23 (code Try.f114)).getD #[]) = some (.lt 0 (.lt 1 (.lt 2 (.lt 3 (.lt 4 (.lt 5 (.lt 6 (.lt 7 (.lt 8 (.lt 9 (.lt 10 (.lt 11 (.lt 12 (.lt 13 (.lt 14 (.hv 15 [4, 3, 2] (.lt 16 (.hv 17 [] (.fin) (.no))) (.no))))))))))))))))) := by kernel_rfl
theorem plan116_1 : plan ((opsOf 1 (code Try.f116)).getD #[]) = some (.lt 0 (.lt 1 (.lt 2 (.lt 3 (.lt 4 (.lt 5 (.lt 6 (.lt 7 (.lt 8 (.lt 9 (.lt 10 (.lt 11 (.lt 12 (.hv 13 [3, 2] (.lt 14 (.hv 15 [] (.fin) (.no))) (.no))))))))))))))) := by kernel_rfl
theorem plan116_3 : plan ((opsOf 3 (code Try.f116)).getD #[]) = some (.lt 0 (.lt 1 (.lt 2 (.lt 3 (.lt 4 (.lt 5 (.lt 6 (.lt 7 (.lt 8 (.lt 9 (.lt 10 (.lt 11 (.hv 12 [] (.lt 13 (.lt 14 (.fin))) (.no)))))))))))))) := by kernel_rfl
theorem plan116_5 : plan ((opsOf 5 (code Try.f116)).getD #[]) = some (.lt 0 (.lt 1 (.lt 2 (.lt 3 (.lt 4 (.lt 5 (.lt 6 (.lt 7 (.lt 8 (.lt 9 (.lt 10 (.lt 11 (.hv 12 [] (.lt 13 (.fin)) (.no)))))))))))))) := by kernel_rfl
theorem plan116_8 : plan ((opsOf 8 (code Try.f116)).getD #[]) = some (.lt 0 (.lt 1 (.lt 2 (.lt 3 (.lt 4 (.lt 5 (.lt 6 (.lt 7 (.lt 8 (.lt 9 (.lt 10 (.lt 11 (.lt 12 (.hv 13 [3, 2] (.lt 14 (.hv 15 [] (.fin) (.no))) (.no))))))))))))))) := by kernel_rfl
theorem plan117_1 : plan ((opsOf 1 (code Try.f117)).getD #[]) = some (.lt 0 (.lt 1 (.lt 2 (.lt 3 (.lt 4 (.lt 5 (.lt 6 (.lt 7 (.lt 8 (.lt 9 (.lt 10 (.lt 11 (.lt 12 (.hv 13 [3, 2] (.lt 14 (.hv 15 [] (.fin) (.no))) (.no))))))))))))))) := by kernel_rfl
theorem plan117_3 : plan ((opsOf 3 (code Try.f117)).getD #[]) = some (.lt 0 (.lt 1 (.lt 2 (.lt 3 (.lt 4 (.lt 5 (.lt 6 (.lt 7 (.lt 8 (.lt 9 (.lt 10 (.lt 11 (.hv 12 [] (.lt 13 (.fin)) (.no)))))))))))))) := by kernel_rfl
theorem plan117_5 : plan ((opsOf 5 (code Try.f117)).getD #[]) = some (.lt 0 (.lt 1 (.lt 2 (.lt 3 (.lt 4 (.lt 5 (.lt 6 (.lt 7 (.lt 8 (.lt 9 (.lt 10 (.lt 11 (.hv 12 [] (.lt 13 (.lt 14 (.fin))) (.no)))))))))))))) := by kernel_rfl
theorem plan117_8 : plan ((opsOf 8 (code Try.f117)).getD #[]) = some (.lt 0 (.lt 1 (.lt 2 (.lt 3 (.lt 4 (.lt 5 (.lt 6 (.lt 7 (.lt 8 (.lt 9 (.lt 10 (.lt 11 (.lt 12 (.hv 13 [3, 2] (.lt 14 (.hv 15 [] (.fin) (.no))) (.no))))))))))))))) := by kernel_rfl
theorem plan117_10 : plan ((opsOf 10 (code Try.f117)).getD #[]) = some (.lt 0 (.lt 1 (.lt 2 (.lt 3 (.lt 4 (.lt 5 (.lt 6 (.lt 7 (.lt 8 (.lt 9 (.lt 10 (.lt 11 (.lt 12 (.hv 13 [3, 2] (.lt 14 (.hv 15 [] (.fin) (.no))) (.no))))))))))))))) := by kernel_rfl
theorem plan117_13 : plan ((opsOf 13 (code Try.f117)).getD #[]) = some (.lt 0 (.lt 1 (.lt 2 (.lt 3 (.lt 4 (.lt 5 (.lt 6 (.lt 7 (.lt 8 (.lt 9 (.lt 10 (.lt 11 (.hv 12 [] (.lt 13 (.fin)) (.no)))))))))))))) := by kernel_rfl
theorem plan117_15 : plan ((opsOf 15 (code Try.f117)).getD #[]) = some (.lt 0 (.lt 1 (.lt 2 (.lt 3 (.lt 4 (.lt 5 (.lt 6 (.lt 7 (.lt 8 (.lt 9 (.lt 10 (.lt 11 (.hv 12 [] (.lt 13 (.lt 14 (.fin))) (.no)))))))))))))) := by kernel_rfl
theorem plan117_18 : plan ((opsOf 18 (code Try.f117)).getD #[]) = some (.lt 0 (.lt 1 (.lt 2 (.lt 3 (.lt 4 (.lt 5 (.lt 6 (.lt 7 (.lt 8 (.lt 9 (.lt 10 (.lt 11 (.lt 12 (.hv 13 [3, 2] (.lt 14 (.hv 15 [] (.fin) (.no))) (.no))))))))))))))) := by kernel_rfl
theorem plan117_21 : plan ((opsOf 21 (code Try.f117)).getD #[]) = some (.lt 0 (.lt 1 (.lt 2 (.lt 3 (.lt 4 (.lt 5 (.lt 6 (.lt 7 (.lt 8 (.lt 9 (.lt 10 (.lt 11 (.lt 12 (.hv 13 [3, 2] (.lt 14 (.hv 15 [] (.fin) (.no))) (.no))))))))))))))) := by kernel_rfl
theorem plan118_3 : plan ((opsOf 3 (code Try.f118)).getD #[]) = some (.lt 0 (.lt 1 (.lt 2 (.lt 3 (.lt 4 (.lt 5 (.lt 6 (.lt 7 (.lt 8 (.lt 9 (.lt 10 (.lt 11 (.lt 12 (.lt 13 (.lt 14 (.lt 15 (.lt 16 (.lt 17 (.lt 18 (.hv 19 [] (.lt 20 (.lt 21 (.fin))) (.no))))))))))))))))))))) := by kernel_rfl
theorem plan118_5 : plan ((opsOf 5 (code Try.f118)).getD #[]) = some (.lt 0 (.lt 1 (.lt 2 (.lt 3 (.lt 4 (.lt 5 (.lt 6 (.lt 7 (.lt 8 (.lt 9 (.lt 10 (.lt 11 (.lt 12 (.hv 13 [] (.lt 14 (.lt 15 (.fin))) (.no))))))))))))))) := by kernel_rfl
theorem plan118_6 : plan ((opsOf 6 (code Try.f118)).getD #[]) = some (.lt 0 (.lt 1 (.lt 2 (.lt 3 (.lt 4 (.lt 5 (.lt 6 (.lt 7 (.lt 8 (.lt 9 (.lt 10 (.lt 11 (.lt 12 (.lt 13 (.lt 14 (.lt 15 (.lt 16 (.lt 17 (.lt 18 (.lt 19 (.lt 20 (.hv 21 [7, 6, 5, 4] (.lt 22 (.hv 23 [] (.fin) (.no))) (.no))))))))))))))))))))))) := by kernel_rfl
theorem plan120_1 : plan ((opsOf 1 (code Try.f120)).getD #[]) = some (.lt 0 (.lt 1 (.lt 2 (.lt 3 (.lt 4 (.lt 5 (.lt 6 (.lt 7 (.lt 8 (.hv 9 [] (.fin) (.no))))))))))) := by kernel_rfl
theorem plan120_2 : plan ((opsOf 2 (code Try.f120)).getD #[]) = some (.lt 0 (.lt 1 (.lt 2 (.lt 3 (.lt 4 (.lt 5 (.lt 6 (.lt 7 (.lt 8 (.hv 9 [] (.fin) (.no))))))))))) := by kernel_rfl
theorem plan120_3 : plan ((opsOf 3 (code Try.f120)).getD #[]) = some (.lt 0 (.lt 1 (.lt 2 (.lt 3 (.lt 4 (.lt 5 (.lt 6 (.lt 7 (.lt 8 (.hv 9 [] (.fin) (.no))))))))))) := by kernel_rfl
theorem plan123_3 : plan ((opsOf 3 (code Try.f123)).getD #[]) = some (.lt 0 (.lt 1 (.lt 2 (.lt 3 (.lt 4 (.lt 5 (.lt 6 (.lt 7 (.lt 8 (.lt 9 (.lt 10 (.lt 11 (.lt 12 (.lt 13 (.lt 14 (.lt 15 (.lt 16 (.lt 17 (.hv 18 [] (.lt 19 (.fin)) (.no)))))))))))))))))))) := by kernel_rfl
theorem plan123_5 : plan ((opsOf 5 (code Try.f123)).getD #[]) = some (.lt 0 (.lt 1 (.lt 2 (.lt 3 (.lt 4 (.lt 5 (.lt 6 (.lt 7 (.lt 8 (.lt 9 (.lt 10 (.lt 11 (.hv 12 [] (.lt 13 (.fin)) (.no)))))))))))))) := by kernel_rfl
theorem plan123_6 : plan ((opsOf 6 (code Try.f123)).getD #[]) = some (.lt 0 (.lt 1 (.lt 2 (.lt 3 (.lt 4 (.lt 5 (.lt 6 (.lt 7 (.lt 8 (.lt 9 (.lt 10 (.lt 11 (.lt 12 (.lt 13 (.lt 14 (.lt 15 (.lt 16 (.lt 17 (.lt 18 (.lt 19 (.lt 20 (.hv 21 [7, 6, 5, 4] (.lt 22 (.hv 23 [] (.fin) (.no))) (.no))))))))))))))))))))))) := by kernel_rfl
theorem plan126_1 : plan ((opsOf 1 (code Try.f126)).getD #[]) = some (.lt 0 (.lt 1 (.lt 2 (.lt 3 (.lt 4 (.lt 5 (.lt 6 (.lt 7 (.lt 8 (.hv 9 [] (.lt 10 (.fin)) (.no))))))))))) := by kernel_rfl
theorem plan127_1 : plan ((opsOf 1 (code Try.f127)).getD #[]) = some (.lt 0 (.lt 1 (.lt 2 (.lt 3 (.lt 4 (.lt 5 (.lt 6 (.lt 7 (.hv 8 [] (.fin) (.no)))))))))) := by kernel_rfl
theorem funcs_all {f : Func → Bool} (h : Try.prog.funcs.all f = true) {i : Nat} {fn : Func} (hi : Try.prog.funcs[i]? = some fn) : f fn = true := Array.all_eq_true_iff_forall_mem.1 h fn (Array.mem_of_getElem? hi)
theorem progB : Prog Cb := ⟨fun t i h => tabOk t i h, mixed, fun f fn h => by simpa using funcs_all names_ok h, fun f fn c h hc => by have := funcs_all dsts_ok h; rw [hc] at this; exact this, fun _ _ _ _ _ h => by cases h⟩
theorem hasBody {fn : Func} (h : fn.body.isSome = true) : fn.body = some (code fn) := by
  unfold code
  cases hb : fn.body with
  | none => rw [hb] at h; cases h
  | some c => rfl
theorem call0 {g : FuncId} {gn : Func} {ts : List TV} {hp : Hp} {r : Option Res} (hg : Try.prog.funcs[g]? = some gn) (hb : gn.body.isSome = true) (h : lim C0 g gn [.c (code gn)] ⟨number ts 0, hp⟩ = r) (hx : isExt g = false := by rfl) : phi C0 (lim C0) g ts hp = r :=
  (phi_at (C := C0) (c := code gn) (ext0_none hx ts hp) hg (hasBody hb)).trans h
theorem callB {g : FuncId} {gn : Func} {ts : List TV} {hp : Hp} {r : Option Res} (hg : Try.prog.funcs[g]? = some gn) (hb : gn.body.isSome = true) (h : lim Cb g gn [.c (code gn)] ⟨number ts 0, hp⟩ = r) : phi Cb (lim Cb) g ts hp = r :=
  (phi_at (C := Cb) (c := code gn) rfl hg (hasBody hb)).trans h
end Go.Proofs.Ytopoaemlbnkhgaa
