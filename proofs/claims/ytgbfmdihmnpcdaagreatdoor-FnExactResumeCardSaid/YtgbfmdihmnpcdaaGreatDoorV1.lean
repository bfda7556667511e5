/- Values: data; what the laws copy, measure and compare. -/
import Derived.Test.YtgbfmdihmnpcdaaGreatDoorT0
import Derived.Test.YtgbfmdihmnpcdaaGreatDoorPm4
namespace Go.Proofs.YtgbfmdihmnpcdaaGreatDoor
open Go Go.Pm Go.Proofs
set_option linter.unusedVariables false
set_option linter.unusedSimpArgs false
set_option maxRecDepth 100000
set_option maxHeartbeats 4000000
def byP (b : List Int) : List PV := [.sl (nums .u8 b)]
inductive Val where
 | mk (kind n : Int) (s : List Int) (k : List (List Int)) (l : List Val)
def Val.kind : Val → Int | .mk a _ _ _ _ => a
def Val.n : Val → Int | .mk _ a _ _ _ => a
def Val.s : Val → List Int | .mk _ _ a _ _ => a
def Val.k : Val → List (List Int) | .mk _ _ _ a _ => a
def Val.l : Val → List Val | .mk _ _ _ _ a => a
mutual
def vP : Val → List PV
 | .mk kind n s k l => [.sc (.int .i64 kind), .sc (.int .i64 n), .sl (nums .u8 s), .sl (rws byP k), .sl (vPs l)]
def vPs : List Val → List (List PV)
 | [] => []
 | v :: l => vP v :: vPs l
end
theorem vPs_eq : ∀ l : List Val, vPs l = rws vP l
 | [] => rfl
 | v :: l => by rw [vPs, vPs_eq l]; rfl
@[simp] theorem vP_eq (v : Val) : vP v = [.sc (.int .i64 v.kind), .sc (.int .i64 v.n), .sl (nums .u8 v.s), .sl (rws byP v.k), .sl (rws vP v.l)] := by
 cases v; rw [vP, vPs_eq]; rfl
theorem Val.ind1 {P : Val → Prop} (h : ∀ v, (∀ u ∈ v.l, P u) → P v) (v : Val) : P v :=
 Val.rec (motive_1 := P) (motive_2 := fun l => ∀ u ∈ l, P u) (fun _ _ _ _ _ ih => h _ ih) (fun _ hu => by cases hu) (fun _ _ hv hl u hu => by
  rcases List.mem_cons.1 hu with rfl | hu
  · exact hv
  · exact hl u hu) v
inductive VAll (P : Val → Prop) : Val → Prop
 | mk {v : Val} : P v → (∀ u ∈ v.l, VAll P u) → VAll P v
theorem VAll.here {P : Val → Prop} {v : Val} (h : VAll P v) : P v := by cases h; assumption
theorem VAll.sub {P : Val → Prop} {v : Val} (h : VAll P v) : ∀ u ∈ v.l, VAll P u := by cases h; assumption
def lenB (b : List Int) : Prop := b.length ≤ 1048576
def lenBB (k : List (List Int)) : Prop := k.length ≤ 1048576 ∧ ∀ b ∈ k, lenB b
def VLen : Val → Prop := VAll fun v => lenB v.s ∧ lenBB v.k ∧ v.l.length ≤ 1048576
def szL (n : Nat) (left : Int) : Int := if left - n < 0 then -1 else left - n
def szBs : List (List Int) → Int → Int
 | [], left => left
 | b :: l, left => if szL b.length left < 0 then -1 else szBs l (szL b.length left)
def szBB (k : List (List Int)) (left : Int) : Int := if szL k.length left < 0 then -1 else szBs k (szL k.length left)
mutual
def szV : Val → Int → Int
 | .mk _ _ s k l, left => if szL s.length left < 0 then -1 else if szBB k (szL s.length left) < 0 then -1 else
  if szL l.length (szBB k (szL s.length left)) < 0 then -1 else szVs l (szL l.length (szBB k (szL s.length left)))
def szVs : List Val → Int → Int
 | [], left => left
 | v :: l, left => if szV v left < 0 then -1 else szVs l (szV v left)
end
def szVV (l : List Val) (left : Int) : Int := if szL l.length left < 0 then -1 else szVs l (szL l.length left)
theorem szV_eq (v : Val) (left : Int) : szV v left = if szL v.s.length left < 0 then -1 else if szBB v.k (szL v.s.length left) < 0 then -1 else szVV v.l (szBB v.k (szL v.s.length left)) := by
 cases v; rw [szV]; rfl
theorem szL_le (n : Nat) (left : Int) (h : 0 ≤ left) : szL n left ≤ left ∧ -1 ≤ szL n left := by unfold szL; split <;> omega
theorem szL_ok {n : Nat} {left : Int} (h : ¬ szL n left < 0) : (n : Int) ≤ left ∧ 0 ≤ szL n left := by unfold szL at *; split at h <;> omega
theorem szBs_le : ∀ (l : List (List Int)) (left : Int), 0 ≤ left → szBs l left ≤ left ∧ -1 ≤ szBs l left
 | [], left, h => by simp [szBs]; omega
 | b :: l, left, h => by
  have h1 := szL_le b.length left h
  rw [szBs]
  split
  · omega
  · have := szBs_le l (szL b.length left) (by omega)
    omega
theorem szBB_le (k : List (List Int)) (left : Int) (h : 0 ≤ left) : szBB k left ≤ left ∧ -1 ≤ szBB k left := by
 have h1 := szL_le k.length left h
 unfold szBB
 split
 · omega
 · have := szBs_le k (szL k.length left) (by omega)
   omega
theorem szBs_ok : ∀ {l : List (List Int)} {left : Int}, 0 ≤ left → left ≤ 1048576 → ¬ szBs l left < 0 → ∀ b ∈ l, lenB b
 | [], _, _, _, _, b, hb => by cases hb
 | x :: l, left, h0, h1, h, b, hb => by
  have h2 := szL_le x.length left h0
  rw [szBs] at h
  split at h
  · omega
  · rename_i h3
    have h4 := szL_ok h3
    rcases List.mem_cons.1 hb with rfl | hb
    · unfold lenB; omega
    · exact szBs_ok (by omega) (by omega) h b hb
theorem szBB_ok {k : List (List Int)} {left : Int} (h0 : 0 ≤ left) (h1 : left ≤ 1048576) (h : ¬ szBB k left < 0) : lenBB k := by
 unfold szBB at h
 split at h
 · omega
 · rename_i h3
   have h4 := szL_ok h3
   have h5 := szL_le k.length left h0
   exact ⟨by omega, szBs_ok (by omega) (by omega) h⟩
theorem szV_le : ∀ (v : Val) (left : Int), 0 ≤ left → szV v left ≤ left ∧ -1 ≤ szV v left := by
 have key : ∀ (l : List Val), (∀ u ∈ l, ∀ left : Int, 0 ≤ left → szV u left ≤ left ∧ -1 ≤ szV u left) → ∀ left : Int, 0 ≤ left → szVs l left ≤ left ∧ -1 ≤ szVs l left := by
  intro l
  induction l with
  | nil => intro _ left h; simp [szVs]; omega
  | cons v l ih =>
   intro hu left h
   have h1 := hu v (List.mem_cons_self ..) left h
   rw [szVs]
   split
   · omega
   · have := ih (fun u hu' => hu u (List.mem_cons_of_mem _ hu')) (szV v left) (by omega)
     omega
 refine Val.ind1 fun v ih left h => ?_
 have h1 := szL_le v.s.length left h
 rw [szV_eq]
 split
 · omega
 have h2 := szBB_le v.k (szL v.s.length left) (by omega)
 split
 · omega
 have h3 := szL_le v.l.length (szBB v.k (szL v.s.length left)) (by omega)
 unfold szVV
 split
 · omega
 · have := key v.l ih (szL v.l.length (szBB v.k (szL v.s.length left))) (by omega)
   omega
theorem szVs_le : ∀ (l : List Val) (left : Int), 0 ≤ left → szVs l left ≤ left ∧ -1 ≤ szVs l left
 | [], left, h => by simp [szVs]; omega
 | v :: l, left, h => by
  have h1 := szV_le v left h
  rw [szVs]
  split
  · omega
  · have := szVs_le l (szV v left) (by omega)
    omega
theorem szVV_le (l : List Val) (left : Int) (h : 0 ≤ left) : szVV l left ≤ left ∧ -1 ≤ szVV l left := by
 have h1 := szL_le l.length left h
 unfold szVV
 split
 · omega
 · have := szVs_le l (szL l.length left) (by omega)
   omega
theorem szV_ok : ∀ (v : Val) (left : Int), 0 ≤ left → left ≤ 1048576 → ¬ szV v left < 0 → VLen v := by
 have key : ∀ (l : List Val), (∀ u ∈ l, ∀ left : Int, 0 ≤ left → left ≤ 1048576 → ¬ szV u left < 0 → VLen u) → ∀ left : Int, 0 ≤ left → left ≤ 1048576 → ¬ szVs l left < 0 → ∀ u ∈ l, VLen u := by
  intro l
  induction l with
  | nil => intro _ left _ _ _ u hu; cases hu
  | cons v l ih =>
   intro hu left h h' hs u hm
   have h1 := szV_le v left h
   rw [szVs] at hs
   split at hs
   · omega
   · rename_i h3
     rcases List.mem_cons.1 hm with rfl | hm
     · exact hu _ (List.mem_cons_self ..) left h h' h3
     · exact ih (fun u hu' => hu u (List.mem_cons_of_mem _ hu')) _ (by omega) (by omega) hs u hm
 refine Val.ind1 fun v ih left h h' hs => ?_
 have h1 := szL_le v.s.length left h
 rw [szV_eq] at hs
 split at hs
 · omega
 rename_i a1
 have b1 := szL_ok a1
 have h2 := szBB_le v.k (szL v.s.length left) (by omega)
 split at hs
 · omega
 rename_i a2
 have b2 := szBB_ok (by omega) (by omega) a2
 have h3 := szL_le v.l.length (szBB v.k (szL v.s.length left)) (by omega)
 unfold szVV at hs
 split at hs
 · omega
 rename_i a3
 have b3 := szL_ok a3
 exact .mk ⟨by unfold lenB; omega, b2, by omega⟩ (key v.l ih _ (by omega) (by omega) hs)
theorem szVs_at {l : List Val} {i : Nat} {left : Int} (h : i < l.length) : szVs (l.drop i) left = if szV l[i] left < 0 then -1 else szVs (l.drop (i + 1)) (szV l[i] left) := by rw [drop_at h, szVs]
theorem szBs_at {l : List (List Int)} {i : Nat} {left : Int} (h : i < l.length) : szBs (l.drop i) left = if szL l[i].length left < 0 then -1 else szBs (l.drop (i + 1)) (szL l[i].length left) := by rw [drop_at h, szBs]
theorem p80 (b : Bool) (l : List (List PV)) (left : Int) (h0 : 0 ≤ left) (h1 : left ≤ 1048576) (hl : l.length ≤ 9223372036854775807) : phi C0 (lim C0) 80 [.pv b (.sl l), (iv left)] [] = some ((iv (szL l.length left)), []) := call0 Tryz.func80 (by kernel_rfl) ((show ∀ fn : Func, fn.results = #[.tmp 4] → lim C0 80 fn [.c (code Tryz.f80)] ⟨_, _⟩ = _ from fun fn hr => by
 have hw : IntKind.i64.wrap (left - (l.length : Int)) = left - l.length := wrap_id' (by omega)
 simp [code, Tryz.f80, hr, hw]
 repeat' ((first | refine ifL_cases (fun h => ?_) (fun h => ?_) | refine gI_cases' (fun h => ?_) (fun h => ?_) | refine gI_cases (fun h => ?_) (fun h => ?_) | refine dI_cases' (fun h => ?_) (fun h => ?_) | refine dI_cases (fun h => ?_) (fun h => ?_)) <;> first | replace h := of_decide_eq_true h | replace h := of_decide_eq_false h | skip
          all_goals try simp [*])
 all_goals grind [szL]
 ) Tryz.f80 Tryz.results80)
theorem p100 (b : Bool) (l : List (List Int)) (left : Int) (h0 : 0 ≤ left) (h1 : left ≤ 1048576) (hl : l.length ≤ 9223372036854775807) (hb : ∀ x ∈ l, x.length ≤ 9223372036854775807) : phi C0 (lim C0) 100 [.pv b (.sl (rws byP l)), (iv left)] [] = some ((iv (szBB l left)), []) := call0 Tryz.func100 (by kernel_rfl) ((show ∀ fn : Func, fn.results = #[.tmp 4] → globs fn = [0, 1, 11, 5, 15, 25, 4] → lim C0 100 fn [.c (code Tryz.f100)] ⟨_, _⟩ = _ from fun fn hr hg => by
 have hw : IntKind.i64.wrap (left - (l.length : Int)) = left - l.length := wrap_id' (by omega)
 simp [code, Tryz.f100, hr, hg, hw]
 (first | refine ifL_cases (fun h => ?_) (fun h => ?_) | refine gI_cases' (fun h => ?_) (fun h => ?_) | refine gI_cases (fun h => ?_) (fun h => ?_) | refine dI_cases' (fun h => ?_) (fun h => ?_) | refine dI_cases (fun h => ?_) (fun h => ?_)) <;> first | replace h := of_decide_eq_true h | replace h := of_decide_eq_false h | skip
 · simp [hg, hr, szBB, szL, h]
 · have hL : szL l.length left = left - l.length := by unfold szL; rw [if_neg h]
   unfold szBB
   rw [hL, if_neg h]
   simp [hg]
   refine (loop_to (s0 := ?s1) (fun x => l.length - x.1) (fun x => [(5, (iv ((x.1 : Nat)))), (1, (iv x.2))]) (fun x => []) (fun x K => (if szBs (l.drop x.1) x.2 < 0 then some ((iv (-1)), []) else K [(5, (iv l.length)), (1, (iv (szBs (l.drop x.1) x.2)))] [])) (fun x => x.1 ≤ l.length ∧ 0 ≤ x.2 ∧ x.2 ≤ 1048576) ((0 : Nat), left - (l.length : Int)) ?hc1 ?h01 ?hs1 ?step1).trans ?r1
   case hc1 => simp; rfl
   case h01 => first | (simp; done) | (simp [*]; done) | exact ⟨by simp, ⟨rfl⟩⟩ | grind | (simp; omega)
   case hs1 => first | (simp; done) | (simp [*]; done)
   case r1 =>
    have := szBs_le l (left - l.length) (by omega)
    simp [hg, hr]
    grind
   rintro k ⟨i, lf⟩ ⟨hi, h2, h3⟩ ih
   simp at hi h2 h3
   simp [hg]
   (first | refine ifL_cases (fun h => ?_) (fun h => ?_) | refine gI_cases' (fun h => ?_) (fun h => ?_) | refine gI_cases (fun h => ?_) (fun h => ?_) | refine dI_cases' (fun h => ?_) (fun h => ?_) | refine dI_cases (fun h => ?_) (fun h => ?_)) <;> first | replace h := of_decide_eq_true h | replace h := of_decide_eq_false h | skip
   · have hlt := h
     have q := fun b => p80 b (nums .u8 l[i]) lf h2 h3 (by simpa using hb _ (List.getElem_mem hlt))
     have hz := szL_le l[i].length lf h2
     simp at q
     simp [hg, byP, hlt, q, hr, hg]
     (first | refine ifL_cases (fun h => ?_) (fun h => ?_) | refine gI_cases' (fun h => ?_) (fun h => ?_) | refine gI_cases (fun h => ?_) (fun h => ?_) | refine dI_cases' (fun h => ?_) (fun h => ?_) | refine dI_cases (fun h => ?_) (fun h => ?_)) <;> first | replace h := of_decide_eq_true h | replace h := of_decide_eq_false h | skip
     · simp [hg, hr, szBs_at hlt, h]
     · rw [szBs_at hlt, if_neg h]
       simp [hg]
       try simp (disch := omega) only [wrap_id']
       refine (ih.out (i + 1, szL l[i].length lf) _ ?_ ?_ ?_).trans ?_
       · simp [hg]; omega
       · simp [hg]; omega
       · simp [hg]
       · simp [hg]
   · have e : i = l.length := by omega
     subst e
     simp [hg, szBs]
     grind
 ) Tryz.f100 Tryz.results100 gl100)
theorem p8 (l : List Int) (hl : l.length ≤ 1048576) : phi C0 (lim C0) 8 [.dv none (nums .u8 l)] [] = some (.pv false (.sl (nums .u8 l)), []) := call0 Tryz.func8 (by kernel_rfl) ((show ∀ fn : Func, fn.results = #[.tmp 2] → globs fn = [0, 4, 11, 3, 2] → lim C0 8 fn [.c (code Tryz.f8)] ⟨_, _⟩ = _ from fun fn hr hg => by
 have g1 : l.length * 1 ≤ Pm.roomBytes := by unfold Pm.roomBytes; omega
 have g2 : (l.length : Int) ≤ 9223372036854775807 := by omega
 try simp at g1
 simp [code, Tryz.f8, hr, hg, g1, g2]
 refine (loop_to (s0 := ?s0) (fun i => l.length - i) (fun i => [(4, (iv ((i : Nat))))]) (fun i => [(16, .row .own 5 1 (fillS (numP .u8) [.sc (.int .u8 0)] l i))]) (fun i K => K [(4, (iv l.length))] [(16, .row .own 5 1 (nums .u8 l))]) (fun i => i ≤ l.length) 0 ?hc ?h0 ?hs ?step).trans ?r
 case hc => simp [hg]; rfl
 case h0 => simp [hg]
 case hs => simp [hg]
 case r => simp [hg, hr]
 intro k i hi ih
 simp [hg]
 (first | refine ifL_cases (fun h => ?_) (fun h => ?_) | refine gI_cases' (fun h => ?_) (fun h => ?_) | refine gI_cases (fun h => ?_) (fun h => ?_) | refine dI_cases' (fun h => ?_) (fun h => ?_) | refine dI_cases (fun h => ?_) (fun h => ?_)) <;> first | replace h := of_decide_eq_true h | replace h := of_decide_eq_false h | skip
 · have e2 := fillS_set (numP .u8) [.sc (.int .u8 0)] l i h
   simp only [numP] at e2
   simp [hg, *]
   try simp (disch := omega) only [wrap_id']
   first | (refine (ih.out (i + 1) _ (by first | omega | grind) (by first | omega | (refine And.intro ?_ ?_; focus omega; (simp [*]; done)) | grind) (by first | (simp [*]; done) | (simp [*]; omega))).trans ?_; try simp [*]) | skip
 · have e : i = l.length := by omega
   subst e
   simp [hg]
 ) Tryz.f8 Tryz.results8 gl8)
theorem p105 (l : List (List Int)) (hl : lenBB l) : phi C0 (lim C0) 105 [.dv none (rws byP l)] [] = some (.pv false (.sl (rws byP l)), []) := call0 Tryz.func105 (by kernel_rfl) ((show ∀ fn : Func, fn.results = #[.tmp 2] → globs fn = [0, 4, 11, 3, 2] → lim C0 105 fn [.c (code Tryz.f105)] ⟨_, _⟩ = _ from fun fn hr hg => by
 obtain ⟨hl, hb⟩ := hl
 have g1 : l.length * 24 ≤ Pm.roomBytes := by unfold Pm.roomBytes; omega
 have g2 : (l.length : Int) ≤ 9223372036854775807 := by omega
 simp [code, Tryz.f105, hr, hg, g1, g2]
 refine (loop_to (s0 := ?s2) (fun i => l.length - i) (fun i => [(4, (iv ((i : Nat))))]) (fun i => [(16, .row .own 25 1 (fillS byP [.sl []] l i))]) (fun i K => K [(4, (iv l.length))] [(16, .row .own 25 1 (rws byP l))]) (fun i => i ≤ l.length) 0 ?hc2 ?h02 ?hs2 ?step2).trans ?r2
 case hc2 => simp; rfl
 case h02 => first | (simp; done) | (simp [*]; done) | exact ⟨by simp, ⟨rfl⟩⟩ | grind | (simp; omega)
 case hs2 => first | (simp; done) | (simp [*]; done)
 case r2 => simp [hg, hr]
 intro k i hi ih
 simp [hg]
 (first | refine ifL_cases (fun h => ?_) (fun h => ?_) | refine gI_cases' (fun h => ?_) (fun h => ?_) | refine gI_cases (fun h => ?_) (fun h => ?_) | refine dI_cases' (fun h => ?_) (fun h => ?_) | refine dI_cases (fun h => ?_) (fun h => ?_)) <;> first | replace h := of_decide_eq_true h | replace h := of_decide_eq_false h | skip
 · have e2 := fillS_set byP [.sl []] l i h
   have q := p8 l[i] (hb _ (List.getElem_mem h))
   simp only [byP] at e2
   simp [hg, byP, *]
   try simp (disch := omega) only [wrap_id']
   refine (ih.out (i + 1) _ ?_ ?_ ?_).trans ?_
   · omega
   · omega
   · simp [hg, byP]
   · rfl
 · have e : i = l.length := by omega
   subst e
   simp [hg]
 ) Tryz.f105 Tryz.results105 gl105)
theorem p137 (l : List Val) (hl : l.length ≤ 1048576) (ih0 : ∀ v ∈ l, phi C0 (lim C0) 104 [.ag [(iv v.kind), (iv v.n), .dv none ((nums .u8 v.s)), .dv none ((rws byP v.k)), .dv none ((rws vP v.l))]] [] = some (.ag [(iv v.kind), (iv v.n), .pv false (.sl (nums .u8 v.s)), .pv false (.sl (rws byP v.k)), .pv false (.sl (rws vP v.l))], [])) : phi C0 (lim C0) 137 [.dv none (rws vP l)] [] = some (.pv false (.sl (rws vP l)), []) := call0 Tryz.func137 (by kernel_rfl) ((show ∀ fn : Func, fn.results = #[.tmp 2] → globs fn = [0, 4, 11, 3, 2] → lim C0 137 fn [.c (code Tryz.f137)] ⟨_, _⟩ = _ from fun fn hr hg => by
 have g1 : l.length * 88 ≤ Pm.roomBytes := by unfold Pm.roomBytes; omega
 have g2 : (l.length : Int) ≤ 9223372036854775807 := by omega
 simp [code, Tryz.f137, hr, hg, g1, g2]
 refine (loop_to (s0 := ?s3) (fun i => l.length - i) (fun i => [(4, (iv ((i : Nat))))]) (fun i => [(16, .row .own 67 5 (fillS vP [.sc (.int .i64 0), .sc (.int .i64 0), .sl [], .sl [], .sl []] l i))]) (fun i K => K [(4, (iv l.length))] [(16, .row .own 67 5 (rws vP l))]) (fun i => i ≤ l.length) 0 ?hc3 ?h03 ?hs3 ?step3).trans ?r3
 case hc3 => simp; rfl
 case h03 => first | (simp; done) | (simp [*]; done) | exact ⟨by simp, ⟨rfl⟩⟩ | grind | (simp; omega)
 case hs3 => first | (simp; done) | (simp [*]; done)
 case r3 => simp [hg, hr]
 intro k i hi ih
 simp [hg]
 (first | refine ifL_cases (fun h => ?_) (fun h => ?_) | refine gI_cases' (fun h => ?_) (fun h => ?_) | refine gI_cases (fun h => ?_) (fun h => ?_) | refine dI_cases' (fun h => ?_) (fun h => ?_) | refine dI_cases (fun h => ?_) (fun h => ?_)) <;> first | replace h := of_decide_eq_true h | replace h := of_decide_eq_false h | skip
 · have e2 := fillS_set vP [.sc (.int .i64 0), .sc (.int .i64 0), .sl [], .sl [], .sl []] l i h
   have q := ih0 l[i] (List.getElem_mem h)
   simp only [vP_eq] at e2
   simp [hg, *]
   try simp (disch := omega) only [wrap_id']
   refine (ih.out (i + 1) _ ?_ ?_ ?_).trans ?_
   · omega
   · omega
   · simp [hg]
   · rfl
 · have e : i = l.length := by omega
   subst e
   simp [hg]
 ) Tryz.f137 Tryz.results137 gl137)
theorem p104 (v : Val) (hv : lenB v.s ∧ lenBB v.k ∧ v.l.length ≤ 1048576) (ih0 : ∀ u ∈ v.l, phi C0 (lim C0) 104 [.ag [(iv u.kind), (iv u.n), .dv none ((nums .u8 u.s)), .dv none ((rws byP u.k)), .dv none ((rws vP u.l))]] [] = some (.ag [(iv u.kind), (iv u.n), .pv false (.sl (nums .u8 u.s)), .pv false (.sl (rws byP u.k)), .pv false (.sl (rws vP u.l))], [])) : phi C0 (lim C0) 104 [.ag [(iv v.kind), (iv v.n), .dv none ((nums .u8 v.s)), .dv none ((rws byP v.k)), .dv none ((rws vP v.l))]] [] = some (.ag [(iv v.kind), (iv v.n), .pv false (.sl (nums .u8 v.s)), .pv false (.sl (rws byP v.k)), .pv false (.sl (rws vP v.l))], []) := call0 Tryz.func104 (by kernel_rfl) ((show ∀ fn : Func, fn.results = #[.cell 2 67] → lim C0 104 fn [.c (code Tryz.f104)] ⟨_, _⟩ = _ from fun fn hr => by
 have p1 := p8 v.s hv.1
 have p2 := p105 v.k hv.2.1
 have p3 := p137 v.l hv.2.2 ih0
 simp [code, Tryz.f104, hr, p1, p2, p3]
 ) Tryz.f104 Tryz.results104)
theorem toV (v : Val) (hv : VLen v) : phi C0 (lim C0) 104 [.ag [(iv v.kind), (iv v.n), .dv none ((nums .u8 v.s)), .dv none ((rws byP v.k)), .dv none ((rws vP v.l))]] [] = some (.ag [(iv v.kind), (iv v.n), .pv false (.sl (nums .u8 v.s)), .pv false (.sl (rws byP v.k)), .pv false (.sl (rws vP v.l))], []) := by
 revert hv
 refine Val.ind1 (P := fun v => VLen v → phi C0 (lim C0) 104 [.ag [(iv v.kind), (iv v.n), .dv none ((nums .u8 v.s)), .dv none ((rws byP v.k)), .dv none ((rws vP v.l))]] [] = some (.ag [(iv v.kind), (iv v.n), .pv false (.sl (nums .u8 v.s)), .pv false (.sl (rws byP v.k)), .pv false (.sl (rws vP v.l))], [])) (fun v ih hv => ?_) v
 exact p104 v hv.here fun u hu => ih u hu (hv.sub u hu)
theorem p133 (b : Bool) (l : List Val) (left : Int) (h0 : 0 ≤ left) (h1 : left ≤ 1048576) (hl : l.length ≤ 9223372036854775807) (ih0 : ∀ v ∈ l, ∀ (b1 b2 b3 : Bool) (left : Int), 0 ≤ left → left ≤ 1048576 → phi C0 (lim C0) 99 [.ag [(iv v.kind), (iv v.n), .pv b1 (.sl (nums .u8 v.s)), .pv b2 (.sl (rws byP v.k)), .pv b3 (.sl (rws vP v.l))], (iv left)] [] = some ((iv (szV v left)), [])) : phi C0 (lim C0) 133 [.pv b (.sl (rws vP l)), (iv left)] [] = some ((iv (szVV l left)), []) := call0 Tryz.func133 (by kernel_rfl) ((show ∀ fn : Func, fn.results = #[.tmp 4] → globs fn = [0, 1, 11, 5, 15, 25, 4] → lim C0 133 fn [.c (code Tryz.f133)] ⟨_, _⟩ = _ from fun fn hr hg => by
 have hw : IntKind.i64.wrap (left - (l.length : Int)) = left - l.length := wrap_id' (by omega)
 simp [code, Tryz.f133, hr, hg, hw]
 (first | refine ifL_cases (fun h => ?_) (fun h => ?_) | refine gI_cases' (fun h => ?_) (fun h => ?_) | refine gI_cases (fun h => ?_) (fun h => ?_) | refine dI_cases' (fun h => ?_) (fun h => ?_) | refine dI_cases (fun h => ?_) (fun h => ?_)) <;> first | replace h := of_decide_eq_true h | replace h := of_decide_eq_false h | skip
 · simp [hg, hr, szVV, szL, h]
 · have hL : szL l.length left = left - l.length := by unfold szL; rw [if_neg h]
   unfold szVV
   rw [hL, if_neg h]
   simp [hg]
   refine (loop_to (s0 := ?s4) (fun x => l.length - x.1) (fun x => [(5, (iv ((x.1 : Nat)))), (1, (iv x.2))]) (fun x => []) (fun x K => (if szVs (l.drop x.1) x.2 < 0 then some ((iv (-1)), []) else K [(5, (iv l.length)), (1, (iv (szVs (l.drop x.1) x.2)))] [])) (fun x => x.1 ≤ l.length ∧ 0 ≤ x.2 ∧ x.2 ≤ 1048576) ((0 : Nat), left - (l.length : Int)) ?hc4 ?h04 ?hs4 ?step4).trans ?r4
   case hc4 => simp; rfl
   case h04 => first | (simp; done) | (simp [*]; done) | exact ⟨by simp, ⟨rfl⟩⟩ | grind | (simp; omega)
   case hs4 => first | (simp; done) | (simp [*]; done)
   case r4 =>
    have := szVs_le l (left - l.length) (by omega)
    simp [hg, hr]
    grind
   rintro k ⟨i, lf⟩ ⟨hi, h2, h3⟩ ih
   simp at hi h2 h3
   simp [hg]
   (first | refine ifL_cases (fun h => ?_) (fun h => ?_) | refine gI_cases' (fun h => ?_) (fun h => ?_) | refine gI_cases (fun h => ?_) (fun h => ?_) | refine dI_cases' (fun h => ?_) (fun h => ?_) | refine dI_cases (fun h => ?_) (fun h => ?_)) <;> first | replace h := of_decide_eq_true h | replace h := of_decide_eq_false h | skip
   · have hlt := h
     have q := fun b1 b2 b3 => ih0 l[i] (List.getElem_mem hlt) b1 b2 b3 lf h2 h3
     have hz := szV_le l[i] lf h2
     simp [hg, hlt, q, hr, hg]
     (first | refine ifL_cases (fun h => ?_) (fun h => ?_) | refine gI_cases' (fun h => ?_) (fun h => ?_) | refine gI_cases (fun h => ?_) (fun h => ?_) | refine dI_cases' (fun h => ?_) (fun h => ?_) | refine dI_cases (fun h => ?_) (fun h => ?_)) <;> first | replace h := of_decide_eq_true h | replace h := of_decide_eq_false h | skip
     · simp [hg, hr, szVs_at hlt, h]
     · rw [szVs_at hlt, if_neg h]
       simp [hg]
       try simp (disch := omega) only [wrap_id']
       refine (ih.out (i + 1, szV l[i] lf) _ ?_ ?_ ?_).trans ?_
       · simp [hg]; omega
       · simp [hg]; omega
       · simp [hg]
       · simp [hg]
   · have e : i = l.length := by omega
     subst e
     simp [hg, szVs]
     grind
 ) Tryz.f133 Tryz.results133 gl133)
def VBig : Val → Prop := VAll fun v => v.s.length ≤ 9223372036854775807 ∧ v.k.length ≤ 9223372036854775807 ∧ (∀ x ∈ v.k, x.length ≤ 9223372036854775807) ∧ v.l.length ≤ 9223372036854775807
theorem p99 (v : Val) (b1 b2 b3 : Bool) (left : Int) (h0 : 0 ≤ left) (h1 : left ≤ 1048576) (hv : v.s.length ≤ 9223372036854775807 ∧ v.k.length ≤ 9223372036854775807 ∧ (∀ x ∈ v.k, x.length ≤ 9223372036854775807) ∧ v.l.length ≤ 9223372036854775807) (ih0 : ∀ u ∈ v.l, ∀ (b1 b2 b3 : Bool) (left : Int), 0 ≤ left → left ≤ 1048576 → phi C0 (lim C0) 99 [.ag [(iv u.kind), (iv u.n), .pv b1 (.sl (nums .u8 u.s)), .pv b2 (.sl (rws byP u.k)), .pv b3 (.sl (rws vP u.l))], (iv left)] [] = some ((iv (szV u left)), [])) : phi C0 (lim C0) 99 [.ag [(iv v.kind), (iv v.n), .pv b1 (.sl (nums .u8 v.s)), .pv b2 (.sl (rws byP v.k)), .pv b3 (.sl (rws vP v.l))], (iv left)] [] = some ((iv (szV v left)), []) := call0 Tryz.func99 (by kernel_rfl) ((show ∀ fn : Func, fn.results = #[.tmp 4] → lim C0 99 fn [.c (code Tryz.f99)] ⟨_, _⟩ = _ from fun fn hr => by
 obtain ⟨v1, v2, v3, v4⟩ := hv
 have p1 := fun b => p80 b (nums .u8 v.s) left h0 h1 (by simpa using v1)
 have hz := szL_le v.s.length left h0
 simp only [rws_len] at p1
 rw [szV_eq]
 simp [code, Tryz.f99, hr, p1]
 (first | refine ifL_cases (fun h => ?_) (fun h => ?_) | refine gI_cases' (fun h => ?_) (fun h => ?_) | refine gI_cases (fun h => ?_) (fun h => ?_) | refine dI_cases' (fun h => ?_) (fun h => ?_) | refine dI_cases (fun h => ?_) (fun h => ?_)) <;> first | replace h := of_decide_eq_true h | replace h := of_decide_eq_false h | skip
 · simp [hr, h]
 have hg := h
 rw [if_neg hg]
 have p2 := fun b => p100 b v.k (szL v.s.length left) (by omega) (by omega) v2 v3
 have hz2 := szBB_le v.k (szL v.s.length left) (by omega)
 simp [p2]
 (first | refine ifL_cases (fun h => ?_) (fun h => ?_) | refine gI_cases' (fun h => ?_) (fun h => ?_) | refine gI_cases (fun h => ?_) (fun h => ?_) | refine dI_cases' (fun h => ?_) (fun h => ?_) | refine dI_cases (fun h => ?_) (fun h => ?_)) <;> first | replace h := of_decide_eq_true h | replace h := of_decide_eq_false h | skip
 · simp [hr, h]
 rw [if_neg h]
 have p3 := fun b => p133 b v.l (szBB v.k (szL v.s.length left)) (by omega) (by omega) v4 ih0
 have hz3 := szVV_le v.l (szBB v.k (szL v.s.length left)) (by omega)
 simp [p3]
 (first | refine ifL_cases (fun h => ?_) (fun h => ?_) | refine gI_cases' (fun h => ?_) (fun h => ?_) | refine gI_cases (fun h => ?_) (fun h => ?_) | refine dI_cases' (fun h => ?_) (fun h => ?_) | refine dI_cases (fun h => ?_) (fun h => ?_)) <;> first | replace h := of_decide_eq_true h | replace h := of_decide_eq_false h | skip
 · simp [hr]; omega
 · simp [hr]
 ) Tryz.f99 Tryz.results99)
theorem szVal (v : Val) (hv : VBig v) : ∀ (b1 b2 b3 : Bool) (left : Int), 0 ≤ left → left ≤ 1048576 → phi C0 (lim C0) 99 [.ag [(iv v.kind), (iv v.n), .pv b1 (.sl (nums .u8 v.s)), .pv b2 (.sl (rws byP v.k)), .pv b3 (.sl (rws vP v.l))], (iv left)] [] = some ((iv (szV v left)), []) := by
 revert hv
 refine Val.ind1 (P := fun v => VBig v → ∀ (b1 b2 b3 : Bool) (left : Int), 0 ≤ left → left ≤ 1048576 → phi C0 (lim C0) 99 [.ag [(iv v.kind), (iv v.n), .pv b1 (.sl (nums .u8 v.s)), .pv b2 (.sl (rws byP v.k)), .pv b3 (.sl (rws vP v.l))], (iv left)] [] = some ((iv (szV v left)), [])) (fun v ih hv b1 b2 b3 left h0 h1 => ?_) v
 exact p99 v b1 b2 b3 left h0 h1 hv.here fun u hu => ih u hu (hv.sub u hu)
theorem p11 (b b' : Bool) (k l : List Int) (hl : l.length ≤ 4611686018427387904) : phi C0 (lim C0) 11 [.pv b (.sl (nums .u8 k)), .pv b' (.sl (nums .u8 l))] [] = some ((bv (decide (k = l))), []) := call0 Tryz.func11 (by kernel_rfl) ((show ∀ fn : Func, fn.results = #[.tmp 4] → globs fn = [1, 0, 10, 5, 14, 25, 4] → lim C0 11 fn [.c (code Tryz.f11)] ⟨_, _⟩ = _ from fun fn hr hg => by
 have hp6 := plan11_6
 simp [opsOf, code, Tryz.f11] at hp6
 simp [code, Tryz.f11, hr, hg, hp6]
 (first | refine ifL_cases (fun h => ?_) (fun h => ?_) | refine gI_cases' (fun h => ?_) (fun h => ?_) | refine gI_cases (fun h => ?_) (fun h => ?_) | refine dI_cases' (fun h => ?_) (fun h => ?_) | refine dI_cases (fun h => ?_) (fun h => ?_)) <;> first | replace h := of_decide_eq_true h | replace h := of_decide_eq_false h | skip
 · simp [hg, *]
   refine (loop_to (s0 := ?s0) (fun i => l.length - i) (fun i => [(5, (iv ((i : Nat))))]) (fun _ => []) (fun i K => bif decide (k.drop i = l.drop i) then K [(5, (iv l.length))] [] else some ((bv false), [])) (fun i => i ≤ l.length) 0 ?hc ?h0 ?hs ?step).trans ?r
   case hc => simp [hg]; rfl
   case h0 => simp [hg]
   case hs => simp [hg]
   case r => simp [hg, hr]; grind
   intro k i hi ih
   simp [hg, *]
   repeat' ((first | refine ifL_cases (fun h => ?_) (fun h => ?_) | refine gI_cases' (fun h => ?_) (fun h => ?_) | refine gI_cases (fun h => ?_) (fun h => ?_) | refine dI_cases' (fun h => ?_) (fun h => ?_) | refine dI_cases (fun h => ?_) (fun h => ?_)) <;> first | replace h := of_decide_eq_true h | replace h := of_decide_eq_false h | skip
            all_goals try simp [*])
   all_goals try simp (disch := omega) only [wrap_id']
   all_goals first | (refine (ih.out (i + 1) _ (by first | omega | grind) (by first | omega | (refine And.intro ?_ ?_; focus omega; (simp [*]; done)) | grind) (by first | (simp [*]; done) | (simp [*]; omega))).trans ?_; try simp [*]) | skip
   all_goals clear ih
   all_goals grind [drop_at, drop_end]
 · simp [hg, hr]; grind
 ) Tryz.f11 Tryz.results11 gl11)
theorem p116 (b b' : Bool) (l : List (List Int)) (hl : lenBB l) : phi C0 (lim C0) 116 [.pv b (.sl (rws byP l)), .pv b' (.sl (rws byP l))] [] = some ((bv true), []) := call0 Tryz.func116 (by kernel_rfl) ((show ∀ fn : Func, fn.results = #[.tmp 4] → globs fn = [1, 0, 10, 5, 14, 26, 4] → lim C0 116 fn [.c (code Tryz.f116)] ⟨_, _⟩ = _ from fun fn hr hg => by
 have hp6 := plan116_6
 simp [opsOf, code, Tryz.f116] at hp6
 obtain ⟨hl, hb⟩ := hl
 simp [code, Tryz.f116, hr, hg, hp6]
 refine (loop_to (s0 := ?s5) (fun i => l.length - i) (fun i => [(5, (iv ((i : Nat))))]) (fun i => []) (fun i K => K [(5, (iv l.length))] []) (fun i => i ≤ l.length) 0 ?hc5 ?h05 ?hs5 ?step5).trans ?r5
 case hc5 => simp; rfl
 case h05 => first | (simp; done) | (simp [*]; done) | exact ⟨by simp, ⟨rfl⟩⟩ | grind | (simp; omega)
 case hs5 => first | (simp; done) | (simp [*]; done)
 case r5 => simp [hg, hr]
 intro k i hi ih
 simp [hg]
 (first | refine ifL_cases (fun h => ?_) (fun h => ?_) | refine gI_cases' (fun h => ?_) (fun h => ?_) | refine gI_cases (fun h => ?_) (fun h => ?_) | refine dI_cases' (fun h => ?_) (fun h => ?_) | refine dI_cases (fun h => ?_) (fun h => ?_)) <;> first | replace h := of_decide_eq_true h | replace h := of_decide_eq_false h | skip
 · have q := fun b b' => p11 b b' l[i] l[i] (by have : l[i].length ≤ 1048576 := hb _ (List.getElem_mem h); omega)
   simp at q
   simp [hg, byP, h, q, hr, hg, hp6]
   try simp (disch := omega) only [wrap_id']
   refine (ih.out (i + 1) _ ?_ ?_ ?_).trans ?_
   · omega
   · omega
   · simp [hg]
   · rfl
 · have e : i = l.length := by omega
   subst e
   simp [hg]
 ) Tryz.f116 Tryz.results116 gl116)
theorem p149 (b b' : Bool) (l : List Val) (hl : l.length ≤ 1048576) (ih0 : ∀ v ∈ l, ∀ b1 b2 b3 c1 c2 c3 : Bool, phi C0 (lim C0) 115 [.ag [(iv v.kind), (iv v.n), .pv b1 (.sl (nums .u8 v.s)), .pv b2 (.sl (rws byP v.k)), .pv b3 (.sl (rws vP v.l))], .ag [(iv v.kind), (iv v.n), .pv c1 (.sl (nums .u8 v.s)), .pv c2 (.sl (rws byP v.k)), .pv c3 (.sl (rws vP v.l))]] [] = some ((bv true), [])) : phi C0 (lim C0) 149 [.pv b (.sl (rws vP l)), .pv b' (.sl (rws vP l))] [] = some ((bv true), []) := call0 Tryz.func149 (by kernel_rfl) ((show ∀ fn : Func, fn.results = #[.tmp 4] → globs fn = [1, 0, 10, 5, 14, 26, 4] → lim C0 149 fn [.c (code Tryz.f149)] ⟨_, _⟩ = _ from fun fn hr hg => by
 have hp6 := plan149_6
 simp [opsOf, code, Tryz.f149] at hp6
 simp [code, Tryz.f149, hr, hg, hp6]
 refine (loop_to (s0 := ?s6) (fun i => l.length - i) (fun i => [(5, (iv ((i : Nat))))]) (fun i => []) (fun i K => K [(5, (iv l.length))] []) (fun i => i ≤ l.length) 0 ?hc6 ?h06 ?hs6 ?step6).trans ?r6
 case hc6 => simp; rfl
 case h06 => first | (simp; done) | (simp [*]; done) | exact ⟨by simp, ⟨rfl⟩⟩ | grind | (simp; omega)
 case hs6 => first | (simp; done) | (simp [*]; done)
 case r6 => simp [hg, hr]
 intro k i hi ih
 simp [hg]
 (first | refine ifL_cases (fun h => ?_) (fun h => ?_) | refine gI_cases' (fun h => ?_) (fun h => ?_) | refine gI_cases (fun h => ?_) (fun h => ?_) | refine dI_cases' (fun h => ?_) (fun h => ?_) | refine dI_cases (fun h => ?_) (fun h => ?_)) <;> first | replace h := of_decide_eq_true h | replace h := of_decide_eq_false h | skip
 · have q := ih0 l[i] (List.getElem_mem h)
   simp [hg, h, q, hr, hg, hp6]
   try simp (disch := omega) only [wrap_id']
   refine (ih.out (i + 1) _ ?_ ?_ ?_).trans ?_
   · omega
   · omega
   · simp [hg]
   · rfl
 · have e : i = l.length := by omega
   subst e
   simp [hg]
 ) Tryz.f149 Tryz.results149 gl149)
theorem p115 (v : Val) (hv : lenB v.s ∧ lenBB v.k ∧ v.l.length ≤ 1048576) (b1 b2 b3 c1 c2 c3 : Bool) (ih0 : ∀ u ∈ v.l, ∀ b1 b2 b3 c1 c2 c3 : Bool, phi C0 (lim C0) 115 [.ag [(iv u.kind), (iv u.n), .pv b1 (.sl (nums .u8 u.s)), .pv b2 (.sl (rws byP u.k)), .pv b3 (.sl (rws vP u.l))], .ag [(iv u.kind), (iv u.n), .pv c1 (.sl (nums .u8 u.s)), .pv c2 (.sl (rws byP u.k)), .pv c3 (.sl (rws vP u.l))]] [] = some ((bv true), [])) : phi C0 (lim C0) 115 [.ag [(iv v.kind), (iv v.n), .pv b1 (.sl (nums .u8 v.s)), .pv b2 (.sl (rws byP v.k)), .pv b3 (.sl (rws vP v.l))], .ag [(iv v.kind), (iv v.n), .pv c1 (.sl (nums .u8 v.s)), .pv c2 (.sl (rws byP v.k)), .pv c3 (.sl (rws vP v.l))]] [] = some ((bv true), []) := call0 Tryz.func115 (by kernel_rfl) ((show ∀ fn : Func, fn.results = #[.tmp 4] → lim C0 115 fn [.c (code Tryz.f115)] ⟨_, _⟩ = _ from fun fn hr => by
 have p1 := fun b b' => p11 b b' v.s v.s (by have : v.s.length ≤ 1048576 := hv.1; omega)
 have p2 := fun b b' => p116 b b' v.k hv.2.1
 have p3 := fun b b' => p149 b b' v.l hv.2.2 ih0
 simp only [eq_self, decide_true] at p1
 simp [code, Tryz.f115, hr, p1, p2, p3]
 ) Tryz.f115 Tryz.results115)
theorem eqVal (v : Val) (hv : VLen v) : ∀ b1 b2 b3 c1 c2 c3 : Bool, phi C0 (lim C0) 115 [.ag [(iv v.kind), (iv v.n), .pv b1 (.sl (nums .u8 v.s)), .pv b2 (.sl (rws byP v.k)), .pv b3 (.sl (rws vP v.l))], .ag [(iv v.kind), (iv v.n), .pv c1 (.sl (nums .u8 v.s)), .pv c2 (.sl (rws byP v.k)), .pv c3 (.sl (rws vP v.l))]] [] = some ((bv true), []) := by
 revert hv
 refine Val.ind1 (P := fun v => VLen v → ∀ b1 b2 b3 c1 c2 c3 : Bool, phi C0 (lim C0) 115 [.ag [(iv v.kind), (iv v.n), .pv b1 (.sl (nums .u8 v.s)), .pv b2 (.sl (rws byP v.k)), .pv b3 (.sl (rws vP v.l))], .ag [(iv v.kind), (iv v.n), .pv c1 (.sl (nums .u8 v.s)), .pv c2 (.sl (rws byP v.k)), .pv c3 (.sl (rws vP v.l))]] [] = some ((bv true), [])) (fun v ih hv b1 b2 b3 c1 c2 c3 => ?_) v
 exact p115 v hv.here b1 b2 b3 c1 c2 c3 fun u hu => ih u hu (hv.sub u hu)
end Go.Proofs.YtgbfmdihmnpcdaaGreatDoor
