/- A machine over the first one: its own functions make trees. -/
import Derived.Test.YtgbfmdihmnpcdaaGreatDoorT0
namespace Go.Proofs.YtgbfmdihmnpcdaaGreatDoor
open Go Go.Pm Go.Proofs
set_option linter.unusedVariables false
set_option linter.unusedSimpArgs false
def own3 : List Nat := [34, 36, 35, 156, 127, 130, 92, 49, 93, 50, 94, 18, 63, 64, 124, 86, 88, 45, 16]
def sigs3 : List (Nat × Sig) := [(34, ⟨[], .tr, false⟩), (36, ⟨[], .tr, false⟩), (35, ⟨[], .ag [.d, .d, .tr, .tr, .tr], false⟩), (156, ⟨[], .ag [.tr, .d, .d, .tr, .tr, .tr, .tr, .d, .d], false⟩), (127, ⟨[], .ag [.d, .d, .tr, .d, .tr], false⟩), (130, ⟨[], .ag [.d, .tr, .d, .d, .d, .tr, .tr, .tr, .tr], false⟩), (92, ⟨[], .ag [.d, .d, .tr, .d, .tr, .any, .d], false⟩), (49, ⟨[], .any, false⟩), (93, ⟨[true, false], .d, false⟩), (50, ⟨[true], .d, false⟩), (94, ⟨[true], .d, false⟩), (18, ⟨[], .tu [.ag [.d, .d, .tr, .d, .tr, .tr, .d], .d], false⟩), (63, ⟨[], .ag [.d, .d, .tr, .tr, .tr], false⟩), (64, ⟨[], .tr, false⟩), (124, ⟨[], .ag [.tr, .d, .d, .tr, .tr, .tr, .tr, .d, .d], false⟩), (86, ⟨[], .ag [.d, .d, .tr, .d, .tr], false⟩), (88, ⟨[], .ag [.d, .tr, .d, .d, .d, .tr, .tr, .tr, .tr], false⟩), (45, ⟨[], .ag [.d, .d, .tr, .d, .tr, .tr, .d], false⟩), (16, ⟨[], .tu [.ag [.d, .d, .tr, .d, .tr, .tr, .d], .d], false⟩)]
def sgOf3 (f : FuncId) : Sig := (Pm.look sigs3 f).getD (sgOf f)
noncomputable def C3 : Cfg := upon C0 own3 sgOf3 true
@[simp] theorem C3_bs : C3.bs = bs0 := rfl
@[simp] theorem C3_T : C3.T = tyT := rfl
@[simp] theorem C3_sg (f : FuncId) : C3.sg f = sgOf3 f := rfl
@[simp] theorem C3_att : C3.att = true := rfl
@[simp] theorem s3_4 : sgOf3 4 = sgOf 4 := rfl
@[simp] theorem s3_15 : sgOf3 15 = sgOf 15 := rfl
@[simp] theorem s3_16 : sgOf3 16 = ⟨[], .tu [.ag [.d, .d, .tr, .d, .tr, .tr, .d], .d], false⟩ := rfl
@[simp] theorem s3_17 : sgOf3 17 = sgOf 17 := rfl
@[simp] theorem s3_18 : sgOf3 18 = ⟨[], .tu [.ag [.d, .d, .tr, .d, .tr, .tr, .d], .d], false⟩ := rfl
@[simp] theorem s3_19 : sgOf3 19 = sgOf 19 := rfl
@[simp] theorem s3_20 : sgOf3 20 = sgOf 20 := rfl
@[simp] theorem s3_21 : sgOf3 21 = sgOf 21 := rfl
@[simp] theorem s3_34 : sgOf3 34 = ⟨[], .tr, false⟩ := rfl
@[simp] theorem s3_35 : sgOf3 35 = ⟨[], .ag [.d, .d, .tr, .tr, .tr], false⟩ := rfl
@[simp] theorem s3_36 : sgOf3 36 = ⟨[], .tr, false⟩ := rfl
@[simp] theorem s3_42 : sgOf3 42 = sgOf 42 := rfl
@[simp] theorem s3_43 : sgOf3 43 = sgOf 43 := rfl
@[simp] theorem s3_44 : sgOf3 44 = sgOf 44 := rfl
@[simp] theorem s3_45 : sgOf3 45 = ⟨[], .ag [.d, .d, .tr, .d, .tr, .tr, .d], false⟩ := rfl
@[simp] theorem s3_48 : sgOf3 48 = sgOf 48 := rfl
@[simp] theorem s3_49 : sgOf3 49 = ⟨[], .any, false⟩ := rfl
@[simp] theorem s3_50 : sgOf3 50 = ⟨[true], .d, false⟩ := rfl
@[simp] theorem s3_63 : sgOf3 63 = ⟨[], .ag [.d, .d, .tr, .tr, .tr], false⟩ := rfl
@[simp] theorem s3_64 : sgOf3 64 = ⟨[], .tr, false⟩ := rfl
@[simp] theorem s3_86 : sgOf3 86 = ⟨[], .ag [.d, .d, .tr, .d, .tr], false⟩ := rfl
@[simp] theorem s3_88 : sgOf3 88 = ⟨[], .ag [.d, .tr, .d, .d, .d, .tr, .tr, .tr, .tr], false⟩ := rfl
@[simp] theorem s3_91 : sgOf3 91 = sgOf 91 := rfl
@[simp] theorem s3_92 : sgOf3 92 = ⟨[], .ag [.d, .d, .tr, .d, .tr, .any, .d], false⟩ := rfl
@[simp] theorem s3_93 : sgOf3 93 = ⟨[true, false], .d, false⟩ := rfl
@[simp] theorem s3_94 : sgOf3 94 = ⟨[true], .d, false⟩ := rfl
@[simp] theorem s3_124 : sgOf3 124 = ⟨[], .ag [.tr, .d, .d, .tr, .tr, .tr, .tr, .d, .d], false⟩ := rfl
@[simp] theorem s3_127 : sgOf3 127 = ⟨[], .ag [.d, .d, .tr, .d, .tr], false⟩ := rfl
@[simp] theorem s3_129 : sgOf3 129 = sgOf 129 := rfl
@[simp] theorem s3_130 : sgOf3 130 = ⟨[], .ag [.d, .tr, .d, .d, .d, .tr, .tr, .tr, .tr], false⟩ := rfl
@[simp] theorem s3_131 : sgOf3 131 = sgOf 131 := rfl
@[simp] theorem s3_156 : sgOf3 156 = ⟨[], .ag [.tr, .d, .d, .tr, .tr, .tr, .tr, .d, .d], false⟩ := rfl
theorem call3 {g : FuncId} {gn : Func} {ts : List TV} {hp : Hp} {r : Option Res} (hg : Tryz.prog.funcs[g]? = some gn) (hb : gn.body.isSome = true) (h : lim C3 g gn [.c (code gn)] ⟨number ts 0, hp⟩ = r) (hx : isExt g = false := by rfl) (ho : own3.contains g = true := by rfl) : phi C3 (lim C3) g ts hp = r :=
 (phi_at (C := C3) (c := code gn) (over_own (ext0_none hx ts hp) ho) hg (hasBody hb)).trans h
theorem lo3 {g : FuncId} {ts : List TV} {hp : Hp} {r : Res} (h : phi C0 (lim C0) g ts hp = some r) (ho : own3.contains g = false := by rfl) : phi C3 (lim C3) g ts hp = some r := phi_ext (over_ext h ho)
end Go.Proofs.YtgbfmdihmnpcdaaGreatDoor
