/- Texts of bytes: what the library's and the program's functions answer. -/
import Derived.Test.YtgbfmdihmnpcdaaGreatDoorV1
namespace Go.Proofs.YtgbfmdihmnpcdaaGreatDoor
open Go Go.Pm Go.Proofs
set_option linter.unusedVariables false
set_option linter.unusedSimpArgs false
set_option maxRecDepth 100000
set_option maxHeartbeats 4000000
@[simp] theorem bytesOf_nums : ∀ l : List Int, bytesOf (nums .u8 l) = some l
 | [] => rfl
 | x :: l => by
  have := bytesOf_nums l
  simp only [rws, List.map_cons, numP] at this ⊢
  simp [bytesOf, this]
@[simp] theorem nums_one (k : IntKind) (l : List Int) : (∀ (r : List PV), r ∈ nums k l → r.length = 1) ↔ True :=
 ⟨fun _ => trivial, fun _ r hr => by obtain ⟨x, _, rfl⟩ := List.mem_map.1 hr; rfl⟩
theorem p145 (b b' : Bool) (k l : List Int) (hk : byteOk k = true) (hl : byteOk l = true) : phi C0 (lim C0) 145 [.pv b (.sl (nums .u8 k)), .pv b' (.sl (nums .u8 l))] [] = some ((iv (cmpB k l)), []) :=
 phi_ext (C := C0) (by simp [C0, ext0, extBB, hk, hl])
theorem p161 (b : Bool) (l : List Int) (c : Int) (hl : byteOk l = true) (hc : 0 ≤ c ∧ c < 256) : phi C0 (lim C0) 161 [.pv b (.sl (nums .u8 l)), (.pv false (.sc (.int .u8 c)))] [] = some ((iv (idxB c l 0)), []) :=
 phi_ext (C := C0) (by
  have hc' : byteOk [c] = true := by simp [byteOk, hc]
  simp [C0, ext0, extBC, hl, hc'])
theorem p110 (s : ByteArray) (h : s.size ≤ 281474976710656) : phi C0 (lim C0) 110 [.pv false (.sc (.string s))] [] = some (atoiV s, []) :=
 phi_ext (C := C0) (by simp [C0, ext0, extS, h])
def toU (n : Int) : UInt8 := UInt8.ofNat n.toNat
theorem toU_nat {n : Int} (h : 0 ≤ n ∧ n < 256) : ((toU n).toNat : Int) = n := by
 unfold toU
 have : n.toNat % 256 = n.toNat := Nat.mod_eq_of_lt (by omega)
 simp [this]
 omega
theorem str_list (l : List Int) : (strOfNums l).toList = l.map toU := by rw [ByteArray.toList_eq, strOfNums_data]; rfl
theorem byteOk_cons {x : Int} {l : List Int} (h : byteOk (x :: l) = true) : (0 ≤ x ∧ x < 256) ∧ byteOk l = true := by
 simp only [byteOk, List.all_cons, Bool.and_eq_true, decide_eq_true_eq] at h
 exact ⟨h.1, h.2⟩
theorem toU_inj {a b : Int} (ha : 0 ≤ a ∧ a < 256) (hb : 0 ≤ b ∧ b < 256) : toU a = toU b ↔ a = b :=
 ⟨fun h => by rw [← toU_nat ha, ← toU_nat hb, h], fun h => by rw [h]⟩
theorem toU_lt {a b : Int} (ha : 0 ≤ a ∧ a < 256) (hb : 0 ≤ b ∧ b < 256) : toU a < toU b ↔ a < b := by
 rw [UInt8.lt_iff_toNat_lt]
 have h1 := toU_nat ha
 have h2 := toU_nat hb
 omega
theorem beq_map : ∀ {k l : List Int}, byteOk k = true → byteOk l = true → (k.map toU == l.map toU) = decide (k = l)
 | [], [], _, _ => rfl
 | [], b :: l, _, _ => by simp
 | a :: k, [], _, _ => by simp
 | a :: k, b :: l, hk, hl => by
  obtain ⟨ha, hk⟩ := byteOk_cons hk
  obtain ⟨hb, hl⟩ := byteOk_cons hl
  have ih := beq_map hk hl
  have h1 := toU_inj ha hb
  simp only [List.map_cons, List.cons_beq_cons, ih, List.cons.injEq, Bool.decide_and]
  congr 1
  by_cases e : a = b
  · subst e; simp
  · have : ¬ toU a = toU b := fun h => e (h1.1 h)
    simp [e, this]
theorem less_map : ∀ {k l : List Int}, byteOk k = true → byteOk l = true → Op.bytesLess (k.map toU) (l.map toU) = decide (cmpB k l < 0)
 | [], [], _, _ => rfl
 | [], b :: l, _, _ => rfl
 | a :: k, [], _, _ => rfl
 | a :: k, b :: l, hk, hl => by
  obtain ⟨ha, hk⟩ := byteOk_cons hk
  obtain ⟨hb, hl⟩ := byteOk_cons hl
  have ih := less_map hk hl
  have h1 := toU_inj ha hb
  have h2 := toU_lt ha hb
  simp only [List.map_cons, Op.bytesLess, ih, cmpB]
  by_cases e1 : a < b
  · simp [e1, h2.2 e1]
  · have e1' : ¬ toU a < toU b := fun h => e1 (h2.1 h)
    by_cases e2 : b < a
    · have : ¬ toU a = toU b := fun h => by have := h1.1 h; omega
      simp [e1, e2, e1', this]
    · have : a = b := by omega
      subst this
      simp
theorem cmpB_zero : ∀ {k l : List Int}, cmpB k l = 0 ↔ k = l
 | [], [] => by simp [cmpB]
 | [], b :: l => by simp [cmpB]
 | a :: k, [] => by simp [cmpB]
 | a :: k, b :: l => by
  have ih := cmpB_zero (k := k) (l := l)
  simp only [cmpB]
  by_cases e1 : a < b
  · simp [e1]; omega
  · by_cases e2 : b < a
    · simp [e1, e2]; omega
    · have : a = b := by omega
      subst this
      simp [ih]
section
variable {tk : TK} {k l : List Int} (hk : byteOk k = true) (hl : byteOk l = true)
include hk hl
theorem bin_eql : binSc tk .eql (.string (strOfNums k)) (.string (strOfNums l)) = some (.bool (decide (k = l))) := by
 simp only [binSc, Op.stringOp, str_list, beq_map hk hl]; rfl
theorem bin_neq : binSc tk .neq (.string (strOfNums k)) (.string (strOfNums l)) = some (.bool (!decide (k = l))) := by
 simp only [binSc, Op.stringOp, str_list, beq_map hk hl]; rfl
theorem bin_lss : binSc tk .lss (.string (strOfNums k)) (.string (strOfNums l)) = some (.bool (decide (cmpB k l < 0))) := by
 simp only [binSc, Op.stringOp, str_list, less_map hk hl]; rfl
theorem bin_geq : binSc tk .geq (.string (strOfNums k)) (.string (strOfNums l)) = some (.bool (!decide (cmpB k l < 0))) := by
 simp only [binSc, Op.stringOp, str_list, less_map hk hl]; rfl
end
theorem p32 (b b' : Bool) (k l : List Int) (hk : byteOk k = true) (hl : byteOk l = true) : phi C0 (lim C0) 32 [.pv b (.sl (nums .u8 k)), .pv b' (.sl (nums .u8 l))] [] = some ((bv (decide (k = l))), []) := call0 Tryz.func32 (by kernel_rfl) ((show ∀ fn : Func, fn.results = #[.tmp 4] → lim C0 32 fn [.c (code Tryz.f32)] ⟨_, _⟩ = _ from fun fn hr => by
 simp [code, Tryz.f32, hr, bin_eql hk hl]
 ) Tryz.f32 Tryz.results32)
def lettersB : List Int → Bool
 | [] => true
 | x :: l => decide (97 ≤ x) && decide (x ≤ 122) && lettersB l
def nameB (b : List Int) : Bool := lettersB b && decide (1 ≤ b.length) && decide (b.length ≤ 8)
def inI (a b c : Int) : Bool := decide (b ≤ a) && decide (a ≤ c)
theorem p66 (a b c : Int) : phi C0 (lim C0) 66 [(iv a), (iv b), (iv c)] [] = some ((bv (inI a b c)), []) := call0 Tryz.func66 (by kernel_rfl) ((show ∀ fn : Func, fn.results = #[.tmp 6] → lim C0 66 fn [.c (code Tryz.f66)] ⟨_, _⟩ = _ from fun fn hr => by
 simp [code, Tryz.f66, hr]
 repeat' ((first | refine ifL_cases (fun h => ?_) (fun h => ?_) | refine gI_cases' (fun h => ?_) (fun h => ?_) | refine gI_cases (fun h => ?_) (fun h => ?_) | refine dI_cases' (fun h => ?_) (fun h => ?_) | refine dI_cases (fun h => ?_) (fun h => ?_)) <;> first | replace h := of_decide_eq_true h | replace h := of_decide_eq_false h | skip
          all_goals try simp [*])
 all_goals grind [inI]
 ) Tryz.f66 Tryz.results66)
theorem lettersB_at {l : List Int} {i : Nat} (h : i < l.length) : lettersB (l.drop i) = (decide (97 ≤ l[i]) && decide (l[i] ≤ 122) && lettersB (l.drop (i + 1))) := by rw [drop_at h]; rfl
theorem p107 (b : Bool) (l : List Int) (hl : l.length ≤ 1048576) : phi C0 (lim C0) 107 [.pv b (.sl (nums .u8 l))] [] = some ((bv (nameB l)), []) := call0 Tryz.func107 (by kernel_rfl) ((show ∀ fn : Func, fn.results = #[.tmp 2] → globs fn = [0, 7, 6, 8, 5, 4, 16, 2] → lim C0 107 fn [.c (code Tryz.f107)] ⟨_, _⟩ = _ from fun fn hr hg => by
 simp [code, Tryz.f107, hr, hg]
 refine (loop_to (s0 := ?s1) (fun i => l.length - i) (fun i => [(7, (iv ((i : Nat))))]) (fun i => []) (fun i K => (if lettersB (l.drop i) then K [(7, (iv l.length))] [] else some ((bv false), []))) (fun i => i ≤ l.length) 0 ?hc1 ?h01 ?hs1 ?step1).trans ?r1
 case hc1 => simp; rfl
 case h01 => first | (simp; done) | (simp [*]; done) | exact ⟨by simp, ⟨rfl⟩⟩ | grind | (simp; omega)
 case hs1 => first | (simp; done) | (simp [*]; done)
 case r1 =>
  cases hb : lettersB l <;> simp [hg, hr, p66, nameB, hb] <;> grind [inI]
 intro k i hi ih
 simp [hg]
 (first | refine ifL_cases (fun h => ?_) (fun h => ?_) | refine gI_cases' (fun h => ?_) (fun h => ?_) | refine gI_cases (fun h => ?_) (fun h => ?_) | refine dI_cases' (fun h => ?_) (fun h => ?_) | refine dI_cases (fun h => ?_) (fun h => ?_)) <;> first | replace h := of_decide_eq_true h | replace h := of_decide_eq_false h | skip
 · have hlt := h
   rw [lettersB_at hlt]
   simp [hg, hlt, hr, hg]
   repeat' ((first | refine ifL_cases (fun h => ?_) (fun h => ?_) | refine gI_cases' (fun h => ?_) (fun h => ?_) | refine gI_cases (fun h => ?_) (fun h => ?_) | refine dI_cases' (fun h => ?_) (fun h => ?_) | refine dI_cases (fun h => ?_) (fun h => ?_)) <;> first | replace h := of_decide_eq_true h | replace h := of_decide_eq_false h | skip
            all_goals try simp [hr, hg, *])
   all_goals try simp (disch := omega) only [wrap_id']
   all_goals first | (refine (ih.out (i + 1) _ (by first | omega | grind) (by first | omega | (refine And.intro ?_ ?_; focus omega; (simp [*]; done)) | grind) (by first | (simp [*]; done) | (simp [*]; omega))).trans ?_; try simp [*]) | skip
   all_goals clear ih
   all_goals grind
 · have e : i = l.length := by omega
   subst e
   simp [hg, lettersB]
 ) Tryz.f107 Tryz.results107 gl107)
def printB : List Int → Bool
 | [] => true
 | x :: l => decide (32 ≤ x) && decide (x ≤ 126) && printB l
def textB (b : List Int) : Bool := printB b && decide (b.length ≤ 20)
theorem printB_at {l : List Int} {i : Nat} (h : i < l.length) : printB (l.drop i) = (decide (32 ≤ l[i]) && decide (l[i] ≤ 126) && printB (l.drop (i + 1))) := by rw [drop_at h]; rfl
theorem p144 (b : Bool) (l : List Int) (hl : l.length ≤ 1048576) : phi C0 (lim C0) 144 [.pv b (.sl (nums .u8 l))] [] = some ((bv (textB l)), []) := call0 Tryz.func144 (by kernel_rfl) ((show ∀ fn : Func, fn.results = #[.tmp 2] → globs fn = [0, 7, 6, 8, 5, 4, 16, 2] → lim C0 144 fn [.c (code Tryz.f144)] ⟨_, _⟩ = _ from fun fn hr hg => by
 simp [code, Tryz.f144, hr, hg]
 refine (loop_to (s0 := ?s2) (fun i => l.length - i) (fun i => [(7, (iv ((i : Nat))))]) (fun i => []) (fun i K => (if printB (l.drop i) then K [(7, (iv l.length))] [] else some ((bv false), []))) (fun i => i ≤ l.length) 0 ?hc2 ?h02 ?hs2 ?step2).trans ?r2
 case hc2 => simp; rfl
 case h02 => first | (simp; done) | (simp [*]; done) | exact ⟨by simp, ⟨rfl⟩⟩ | grind | (simp; omega)
 case hs2 => first | (simp; done) | (simp [*]; done)
 case r2 =>
  cases hb : printB l <;> simp [hg, hr, textB, hb] <;> grind [inI]
 intro k i hi ih
 simp [hg]
 (first | refine ifL_cases (fun h => ?_) (fun h => ?_) | refine gI_cases' (fun h => ?_) (fun h => ?_) | refine gI_cases (fun h => ?_) (fun h => ?_) | refine dI_cases' (fun h => ?_) (fun h => ?_) | refine dI_cases (fun h => ?_) (fun h => ?_)) <;> first | replace h := of_decide_eq_true h | replace h := of_decide_eq_false h | skip
 · have hlt := h
   rw [printB_at hlt]
   simp [hg, hlt, hr, hg]
   repeat' ((first | refine ifL_cases (fun h => ?_) (fun h => ?_) | refine gI_cases' (fun h => ?_) (fun h => ?_) | refine gI_cases (fun h => ?_) (fun h => ?_) | refine dI_cases' (fun h => ?_) (fun h => ?_) | refine dI_cases (fun h => ?_) (fun h => ?_)) <;> first | replace h := of_decide_eq_true h | replace h := of_decide_eq_false h | skip
            all_goals try simp [hr, hg, *])
   all_goals try simp (disch := omega) only [wrap_id']
   all_goals first | (refine (ih.out (i + 1) _ (by first | omega | grind) (by first | omega | (refine And.intro ?_ ?_; focus omega; (simp [*]; done)) | grind) (by first | (simp [*]; done) | (simp [*]; omega))).trans ?_; try simp [*]) | skip
   all_goals clear ih
   all_goals grind
 · have e : i = l.length := by omega
   subst e
   simp [hg, printB]
 ) Tryz.f144 Tryz.results144 gl144)
theorem byteOk_take {l : List Int} (h : byteOk l = true) (n : Nat) : byteOk (l.take n) = true :=
 List.all_eq_true.2 fun x hx => List.all_eq_true.1 h x (List.mem_of_mem_take hx)
theorem byteOk_drop {l : List Int} (h : byteOk l = true) (n : Nat) : byteOk (l.drop n) = true :=
 List.all_eq_true.2 fun x hx => List.all_eq_true.1 h x (List.mem_of_mem_drop hx)
def hasPre (k l : List Int) : Bool := decide (l.length ≤ k.length) && decide (k.take l.length = l)
def hasSuf (k l : List Int) : Bool := decide (l.length ≤ k.length) && decide (k.drop (k.length - l.length) = l)
theorem p140 (b b' : Bool) (k l : List Int) (hk : byteOk k = true) (hl : byteOk l = true) (hk2 : k.length ≤ 1048576) (hl2 : l.length ≤ 1048576) : phi C0 (lim C0) 140 [.pv b (.sl (nums .u8 k)), .pv b' (.sl (nums .u8 l))] [] = some ((bv (hasPre k l)), []) := call0 Tryz.func140 (by kernel_rfl) ((show ∀ fn : Func, fn.results = #[.tmp 4] → lim C0 140 fn [.c (code Tryz.f140)] ⟨_, _⟩ = _ from fun fn hr => by
 have q := fun b b' => p32 b b' (k.take l.length) l (byteOk_take hk _) hl
 simp [code, Tryz.f140, hr]
 (first | refine ifL_cases (fun h => ?_) (fun h => ?_) | refine gI_cases' (fun h => ?_) (fun h => ?_) | refine gI_cases (fun h => ?_) (fun h => ?_) | refine dI_cases' (fun h => ?_) (fun h => ?_) | refine dI_cases (fun h => ?_) (fun h => ?_)) <;> first | replace h := of_decide_eq_true h | replace h := of_decide_eq_false h | skip
 · have h2 : (l.length : Int) ≤ k.length := by omega
   simp [h, h2, q, hasPre, hr]
 · simp [h, hasPre, hr]
 ) Tryz.f140 Tryz.results140)
theorem p139 (b b' : Bool) (k l : List Int) (hk : byteOk k = true) (hl : byteOk l = true) (hk2 : k.length ≤ 1048576) (hl2 : l.length ≤ 1048576) : phi C0 (lim C0) 139 [.pv b (.sl (nums .u8 k)), .pv b' (.sl (nums .u8 l))] [] = some ((bv (hasSuf k l)), []) := call0 Tryz.func139 (by kernel_rfl) ((show ∀ fn : Func, fn.results = #[.tmp 4] → lim C0 139 fn [.c (code Tryz.f139)] ⟨_, _⟩ = _ from fun fn hr => by
 have q := fun b b' => p32 b b' (k.drop (k.length - l.length)) l (byteOk_drop hk _) hl
 have hw : IntKind.i64.wrap ((k.length : Int) - l.length) = k.length - l.length := wrap_id' (by omega)
 simp [code, Tryz.f139, hr, hw]
 (first | refine ifL_cases (fun h => ?_) (fun h => ?_) | refine gI_cases' (fun h => ?_) (fun h => ?_) | refine gI_cases (fun h => ?_) (fun h => ?_) | refine dI_cases' (fun h => ?_) (fun h => ?_) | refine dI_cases (fun h => ?_) (fun h => ?_)) <;> first | replace h := of_decide_eq_true h | replace h := of_decide_eq_false h | skip
 · have h2 : (l.length : Int) ≤ k.length := by omega
   have h3 : ((k.length : Int) - l.length).toNat = k.length - l.length := by omega
   have h4 : (0 : Int) ≤ (k.length : Int) - l.length := by omega
   have h5 : (k.length : Int) - l.length ≤ k.length := by omega
   have h6 : (k.drop (k.length - l.length)).take (k.length - (k.length - l.length)) = k.drop (k.length - l.length) := List.take_of_length_le (by simp)
   simp [h, h2, h3, h4, h5, h6, hw, q, hasSuf, hr]
 · simp [h, hasSuf, hr]
 ) Tryz.f139 Tryz.results139)
theorem p109 (b' : Bool) (k l : List Int) (hk : byteOk k = true) (hl : byteOk l = true) (hk2 : k.length ≤ 1048576) (hl2 : l.length ≤ 1048576) : phi C0 (lim C0) 109 [.pv false (.sl (nums .u8 k)), .pv b' (.sl (nums .u8 l))] [] = some (.tu [.pv false (.sl (nums .u8 (if hasPre k l then k.drop l.length else k))), (bv (hasPre k l))], []) := call0 Tryz.func109 (by kernel_rfl) ((show ∀ fn : Func, fn.results = #[.tmp 4, .tmp 5] → lim C0 109 fn [.c (code Tryz.f109)] ⟨_, _⟩ = _ from fun fn hr => by
 have q := fun b b' => p140 b b' k l hk hl hk2 hl2
 simp [code, Tryz.f109, hr, q]
 (first | refine ifL_cases (fun h => ?_) (fun h => ?_) | refine gI_cases' (fun h => ?_) (fun h => ?_) | refine gI_cases (fun h => ?_) (fun h => ?_) | refine dI_cases' (fun h => ?_) (fun h => ?_) | refine dI_cases (fun h => ?_) (fun h => ?_)) <;> first | replace h := of_decide_eq_true h | replace h := of_decide_eq_false h | skip
 · have h2 : (l.length : Int) ≤ k.length := by simp [hasPre] at h; omega
   have h3 : (k.drop l.length).take (k.length - l.length) = k.drop l.length := List.take_of_length_le (by simp)
   simp [h, h2, h3, hr]
 · simp [h, hr]
 ) Tryz.f109 Tryz.results109)
theorem p108 (b' : Bool) (k l : List Int) (hk : byteOk k = true) (hl : byteOk l = true) (hk2 : k.length ≤ 1048576) (hl2 : l.length ≤ 1048576) : phi C0 (lim C0) 108 [.pv false (.sl (nums .u8 k)), .pv b' (.sl (nums .u8 l))] [] = some (.tu [.pv false (.sl (nums .u8 (if hasSuf k l then k.take (k.length - l.length) else k))), (bv (hasSuf k l))], []) := call0 Tryz.func108 (by kernel_rfl) ((show ∀ fn : Func, fn.results = #[.tmp 4, .tmp 5] → lim C0 108 fn [.c (code Tryz.f108)] ⟨_, _⟩ = _ from fun fn hr => by
 have q := fun b b' => p139 b b' k l hk hl hk2 hl2
 have hw : IntKind.i64.wrap ((k.length : Int) - l.length) = k.length - l.length := wrap_id' (by omega)
 simp [code, Tryz.f108, hr, q, hw]
 (first | refine ifL_cases (fun h => ?_) (fun h => ?_) | refine gI_cases' (fun h => ?_) (fun h => ?_) | refine gI_cases (fun h => ?_) (fun h => ?_) | refine dI_cases' (fun h => ?_) (fun h => ?_) | refine dI_cases (fun h => ?_) (fun h => ?_)) <;> first | replace h := of_decide_eq_true h | replace h := of_decide_eq_false h | skip
 · have h2 : l.length ≤ k.length := by simp [hasSuf] at h; omega
   have h3 : ((k.length : Int) - l.length).toNat = k.length - l.length := by omega
   have h4 : (0 : Int) ≤ (k.length : Int) - l.length := by omega
   have h5 : (k.length : Int) - l.length ≤ k.length := by omega
   simp [h, h2, h3, h4, h5, hw, hr]
 · simp [h, hr]
 ) Tryz.f108 Tryz.results108)
theorem p138 (b b' : Bool) (l : List Int) (c : Int) (hl : byteOk l = true) (hc : 0 ≤ c ∧ c < 256) (hl2 : l.length ≤ 1048576) : phi C0 (lim C0) 138 [.pv b (.sl (nums .u8 l)), .pv b' (.sl [[.sc (.int .u8 c)]])] [] = some ((iv (idxB c l 0)), []) := call0 Tryz.func138 (by kernel_rfl) ((show ∀ fn : Func, fn.results = #[.tmp 4] → globs fn = [1, 5, 22, 25, 0, 33, 40, 41, 46, 52, 9, 8, 69, 6, 75, 11, 84, 7, 105, 10, 114, 12, 121, 17, 15, 138, 13, 144, 18, 153, 14, 174, 16, 189, 19, 196, 4] → lim C0 138 fn [.c (code Tryz.f138)] ⟨_, _⟩ = _ from fun fn hr hg => by
 have q := fun b => p161 b l c hl hc
 simp [code, Tryz.f138, hr, hg, q]
 ) Tryz.f138 Tryz.results138 gl138)
theorem idxB_in (c : Int) : ∀ (l : List Int) (i : Nat), idxB c l i = -1 ∨ ((i : Int) ≤ idxB c l i ∧ idxB c l i < i + l.length)
 | [], i => .inl rfl
 | a :: l, i => by
  simp only [idxB]
  split
  · right; simp; omega
  · rcases idxB_in c l (i + 1) with h | h
    · exact .inl h
    · right; simp; omega
theorem p106 (b' : Bool) (l : List Int) (c : Int) (hl : byteOk l = true) (hc : 0 ≤ c ∧ c < 256) (hl2 : l.length ≤ 1048576) : phi C0 (lim C0) 106 [.pv false (.sl (nums .u8 l)), .pv b' (.sl [[.sc (.int .u8 c)]])] [] = some (.tu [.pv false (.sl (nums .u8 (if 0 ≤ idxB c l 0 then l.take (idxB c l 0).toNat else l))), .pv false (.sl (nums .u8 (if 0 ≤ idxB c l 0 then l.drop ((idxB c l 0).toNat + 1) else []))), (bv (decide (0 ≤ idxB c l 0)))], []) := call0 Tryz.func106 (by kernel_rfl) ((show ∀ fn : Func, fn.results = #[.tmp 4, .tmp 5, .tmp 6] → lim C0 106 fn [.c (code Tryz.f106)] ⟨_, _⟩ = _ from fun fn hr => by
 have hp3 := plan106_3
 simp [opsOf, code, Tryz.f106] at hp3
 have q := fun b b' => p138 b b' l c hl hc hl2
 have h1 := idxB_in c l 0
 simp [code, Tryz.f106, hr, hp3, q]
 (first | refine ifL_cases (fun h => ?_) (fun h => ?_) | refine gI_cases' (fun h => ?_) (fun h => ?_) | refine gI_cases (fun h => ?_) (fun h => ?_) | refine dI_cases' (fun h => ?_) (fun h => ?_) | refine dI_cases (fun h => ?_) (fun h => ?_)) <;> first | replace h := of_decide_eq_true h | replace h := of_decide_eq_false h | skip
 · have h2 : idxB c l 0 < l.length := by omega
   have hw : IntKind.i64.wrap (idxB c l 0 + 1) = idxB c l 0 + 1 := wrap_id' (by omega)
   have h3 : (idxB c l 0 + 1).toNat = (idxB c l 0).toNat + 1 := by omega
   have h4 : idxB c l 0 ≤ l.length := by omega
   have h5 : idxB c l 0 + 1 ≤ l.length := by omega
   have h6 : (0 : Int) ≤ idxB c l 0 + 1 := by omega
   have h7 : (l.drop ((idxB c l 0).toNat + 1)).take (l.length - ((idxB c l 0).toNat + 1)) = l.drop ((idxB c l 0).toNat + 1) := List.take_of_length_le (by simp)
   simp [h, h2, h3, h4, h5, h6, h7, hw, hr, hp3]
 · simp [h, hr, hp3]
 ) Tryz.f106 Tryz.results106)
end Go.Proofs.YtgbfmdihmnpcdaaGreatDoor
