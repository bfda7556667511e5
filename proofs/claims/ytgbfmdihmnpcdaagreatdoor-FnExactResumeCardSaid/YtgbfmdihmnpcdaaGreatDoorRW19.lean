/- An entry is put where it belongs, by the reference. -/
import Derived.Test.YtgbfmdihmnpcdaaGreatDoorRW6
import Derived.Test.YtgbfmdihmnpcdaaGreatDoorRW9
namespace Go.Proofs.YtgbfmdihmnpcdaaGreatDoor
open Go Go.Pm Go.Proofs
set_option linter.unusedVariables false
set_option linter.unusedSimpArgs false
set_option maxRecDepth 100000
set_option maxHeartbeats 4000000
theorem bin_gtr {tk : TK} {k l : List Int} (hk : byteOk k = true) (hl : byteOk l = true) : binSc tk .gtr (.string (strOfNums k)) (.string (strOfNums l)) = some (.bool (decide (0 < cmpB k l))) := by
 have e : (!(decide (cmpB k l < 0) || decide (k = l))) = decide (0 < cmpB k l) := by
  have := cmpB_zero (k := k) (l := l)
  by_cases h1 : cmpB k l < 0
  · simp [h1]; omega
  · by_cases h2 : k = l
    · have h3 := this.2 h2
      simp [h2, h3]; rw [← h2] at *; omega
    · have h3 : ¬ cmpB k l = 0 := fun h => h2 (this.1 h)
      simp [h1, h2]; omega
 simp only [binSc, Op.stringOp, str_list, less_map hk hl, beq_map hk hl, e]
 rfl
def cm3 (k l : List Int) : Int := if cmpB k l < 0 then -1 else if 0 < cmpB k l then 1 else 0
theorem p174 (b b' : Bool) (k l : List Int) (hk : byteOk k = true) (hl : byteOk l = true) : phi C0 (lim C0) 174 [.pv b (.sl (nums .u8 k)), .pv b' (.sl (nums .u8 l))] [] = some ((iv (cm3 k l)), []) := call0 Tryz.func174 (by kernel_rfl) ((show ∀ fn : Func, fn.results = #[.tmp 4] → lim C0 174 fn [.c (code Tryz.f174)] ⟨_, _⟩ = _ from fun fn hr => by
 have q1 := bin_lss (tk := .str) hk hl
 have q2 := bin_gtr (tk := .str) hk hl
 unfold cm3
 by_cases h1 : cmpB k l < 0
 · simp [code, Tryz.f174, hr, q1, q2, h1]
 by_cases h2 : 0 < cmpB k l
 · simp [code, Tryz.f174, hr, q1, q2, h1, h2]
 · simp [code, Tryz.f174, hr, q1, q2, h1, h2]
 ) Tryz.f174 Tryz.results174)
theorem cm3_le (k l : List Int) : (cm3 k l ≤ 0) = (cmpB k l ≤ 0) := by unfold cm3; split <;> (try split) <;> simp <;> omega
theorem cm3_zero (k l : List Int) : (cm3 k l = 0) = (cmpB k l = 0) := by unfold cm3; split <;> (try split) <;> simp <;> omega
theorem nP_snoc (l : List En) (x : En) : rws nP l ++ [[.sl (nums .u8 x.addr), .sc (.int .i64 x.val.kind), .sc (.int .i64 x.val.n), .sl (nums .u8 x.val.s), .sl (rws byP x.val.k), .sl (rws vP x.val.l), .sl (rws byP x.deps), .sc (.bool x.taint), .sc (.int .i64 x.turned)]] = rws nP (l ++ [x]) := by
 have h : rws nP l ++ [nP x] = rws nP (l ++ [x]) := by have h := rws_app nP l [x]; exact h
 rw [nP_eq] at h
 exact h
theorem room152 {n i L : Nat} (h : n ≤ i) (hi : i ≤ L) (hL : L ≤ 1048576) : (n + 1 + 1) * 152 ≤ Pm.roomBytes ∧ n + 1 + 1 ≤ Pm.maxL ∧ (n + 1 + 1 + 1) * 152 ≤ Pm.roomBytes ∧ n + 1 + 1 + 1 ≤ Pm.maxL := by
 unfold Pm.roomBytes Pm.maxL
 omega
theorem putL_step {x : En} {l : List En} {i : Nat} {p : Bool} (h : i < l.length) : putL x p (l.drop i) = (if p = false ∧ cmpB x.addr l[i].addr ≤ 0 then [x] else []) ++ ((if cmpB x.addr l[i].addr ≠ 0 then [l[i]] else []) ++ putL x (p || decide (cmpB x.addr l[i].addr ≤ 0)) (l.drop (i + 1))) := by rw [drop_at h]; rfl
theorem p152 (b : Bool) (l : List En) (x0 : En) (hl : l.length ≤ 1048576) (hx : byteOk x0.addr = true) (ha0 : ∀ y ∈ l, byteOk y.addr = true) : phi C0 (lim C0) 152 [.pv b (.sl (rws nP l)), .ag [.pv false (.sl (nums .u8 x0.addr)), (iv x0.val.kind), (iv x0.val.n), .pv false (.sl (nums .u8 x0.val.s)), .pv false (.sl (rws byP x0.val.k)), .pv false (.sl (rws vP x0.val.l)), .pv false (.sl (rws byP x0.deps)), (bv x0.taint), (iv x0.turned)]] [] = some (.ref 16 0 (putL x0 false l).length, [(16, .row .own 162 9 (rws nP (putL x0 false l)))]) := call0 Tryz.func152 (by kernel_rfl) ((show ∀ fn : Func, fn.results = #[.tmp 4] → globs fn = [1, 0, 7, 12, 3, 8, 6, 28, 5, 34, 43, 4] → lim C0 152 fn [.c (code Tryz.f152)] ⟨_, _⟩ = _ from fun fn hr hg => by
 have hp6 := plan152_6
 simp [opsOf, code, Tryz.f152] at hp6
 simp [code, Tryz.f152, hr, hg, hp6]
 refine (loop_go (s0 := ?s1) (fun x => l.length - x.1) (fun x => [(5, slT 18 x.2.1), (6, (bv x.2.2)), (7, (iv ((x.1 : Nat))))]) (fun x => [(16, .box [.pv false (.sl (nums .u8 x0.addr)), (iv x0.val.kind), (iv x0.val.n), .pv false (.sl (nums .u8 x0.val.s)), .pv false (.sl (rws byP x0.val.k)), .pv false (.sl (rws vP x0.val.l)), .pv false (.sl (rws byP x0.deps)), (bv x0.taint), (iv x0.turned)])] ++ slH 18 162 9 nP x.2.1) (fun x => some (.ref 16 0 (x.2.1 ++ putL x0 x.2.2 (l.drop x.1)).length, [(16, .row .own 162 9 (rws nP (x.2.1 ++ putL x0 x.2.2 (l.drop x.1))))])) (fun x => x.1 ≤ l.length ∧ x.2.1.length ≤ x.1 + (if x.2.2 then 1 else 0) ∧ (x.2.2 = true → x.2.1 ≠ [])) ((0 : Nat), (([] : List En), false)) ?hc1 ?h01 ?hs1 ?step1).trans ?r1
 case hc1 => simp; rfl
 case h01 => first | (simp; done) | (simp [*]; done) | exact ⟨by simp, ⟨rfl⟩⟩ | grind | (simp; omega)
 case hs1 => first | (simp; done) | (simp [*]; done)
 case r1 => simp [hg]
 rintro ⟨i, acc, p⟩ ⟨hi, ha, hpa⟩ ih
 simp at hi ha hpa
 simp [hg]
 by_cases h : i < l.length
 · have q := fun b b' => p174 b b' x0.addr l[i].addr hx (ha0 _ (List.getElem_mem h))
   have hst := putL_step (x := x0) (p := p) h
   have c0 := cm3_zero x0.addr l[i].addr
   have c1 := cm3_le x0.addr l[i].addr
   generalize cmpB x0.addr l[i].addr = cb at *
   generalize cm3 x0.addr l[i].addr = cc at *
   cases p
   · rcases acc with _ | ⟨a0, acc⟩
     · have r1 : 152 ≤ Pm.roomBytes := by unfold Pm.roomBytes; omega
       have x1 : 1 ≤ Pm.maxL := by unfold Pm.maxL; omega
       have s1 : Spare 1 1 = False := by simp [hg, Spare]
       have r2 : 304 ≤ Pm.roomBytes := by unfold Pm.roomBytes; omega
       have x2 : 2 ≤ Pm.maxL := by unfold Pm.maxL; omega
       rcases (by omega : cb < 0 ∨ cb = 0 ∨ 0 < cb) with hc | hc | hc
       · have hd1 : cb ≤ 0 := by omega
         have hd2 : ¬ cb = 0 := by omega
         simp [hg, h, q, c0, c1, hd1, hd2, r1, x1, s1, r2, x2, hr, hg, hp6]
         try simp (disch := omega) only [wrap_id']
         simp [hg, hd1, hd2] at hst
         refine (ih.out (i + 1, [x0, l[i]], true) _ ?_ ?_ ?_).trans ?_
         · simp [hg]; omega
         · simp [hg]; omega
         · simp [hg, rws]
         · rw [hst]; simp [hg]
           try omega
       · have hd1 : cb ≤ 0 := by omega
         have hd2 : cb = 0 := hc
         simp [hg, h, q, c0, c1, hd1, hd2, r1, x1, s1, r2, x2, hr, hg, hp6]
         try simp (disch := omega) only [wrap_id']
         simp [hg, hd1, hd2] at hst
         refine (ih.out (i + 1, [x0], true) _ ?_ ?_ ?_).trans ?_
         · simp [hg]; omega
         · simp [hg]; omega
         · simp [hg, rws]
         · rw [hst]; simp [hg]
           try omega
       · have hd1 : ¬ cb ≤ 0 := by omega
         have hd2 : ¬ cb = 0 := by omega
         simp [hg, h, q, c0, c1, hd1, hd2, r1, x1, s1, r2, x2, hr, hg, hp6]
         try simp (disch := omega) only [wrap_id']
         simp [hg, hd1, hd2] at hst
         refine (ih.out (i + 1, [l[i]], false) _ ?_ ?_ ?_).trans ?_
         · simp [hg]; omega
         · simp [hg]; omega
         · simp [hg, rws]
         · rw [hst]; simp [hg]
           try omega
     · simp at ha
       have ha' : acc.length ≤ i := by omega
       obtain ⟨r1, x1, r2, x2⟩ := room152 ha' hi hl
       have k1 : List.take (acc.length + 1) (acc ++ [x0]) = acc ++ [x0] := List.take_of_length_le (by simp [hg])
       have s1 : Spare (acc.length + 1) (acc.length + 1) = False := eq_false (Nat.lt_irrefl _)
       have s2 : Spare (acc.length + 1 + 1) (acc.length + 1 + 1) = False := eq_false (Nat.lt_irrefl _)
       have e3 := nP_snoc (a0 :: acc) x0
       have e4 := nP_snoc (a0 :: acc) l[i]
       have e5 := nP_snoc (a0 :: (acc ++ [x0])) l[i]
       rcases (by omega : cb < 0 ∨ cb = 0 ∨ 0 < cb) with hc | hc | hc
       · have hd1 : cb ≤ 0 := by omega
         have hd2 : ¬ cb = 0 := by omega
         simp [hg, h, q, c0, c1, hd1, hd2, r1, x1, s1, r2, x2, s2, e3, e4, e5, k1, hr, hg, hp6]
         try simp (disch := omega) only [wrap_id']
         simp [hg, hd1, hd2] at hst
         refine (ih.out (i + 1, a0 :: (acc ++ [x0, l[i]]), true) _ ?_ ?_ ?_).trans ?_
         · simp [hg]; omega
         · simp [hg]; omega
         · simp [hg, k1, e3, e4, e5]
         · rw [hst]; simp [hg]
           try omega
       · have hd1 : cb ≤ 0 := by omega
         have hd2 : cb = 0 := hc
         simp [hg, h, q, c0, c1, hd1, hd2, r1, x1, s1, r2, x2, s2, e3, e4, e5, k1, hr, hg, hp6]
         try simp (disch := omega) only [wrap_id']
         simp [hg, hd1, hd2] at hst
         refine (ih.out (i + 1, a0 :: (acc ++ [x0]), true) _ ?_ ?_ ?_).trans ?_
         · simp [hg]; omega
         · simp [hg]; omega
         · simp [hg, k1, e3, e4, e5]
         · rw [hst]; simp [hg]
           try omega
       · have hd1 : ¬ cb ≤ 0 := by omega
         have hd2 : ¬ cb = 0 := by omega
         simp [hg, h, q, c0, c1, hd1, hd2, r1, x1, s1, r2, x2, s2, e3, e4, e5, k1, hr, hg, hp6]
         try simp (disch := omega) only [wrap_id']
         simp [hg, hd1, hd2] at hst
         refine (ih.out (i + 1, a0 :: (acc ++ [l[i]]), false) _ ?_ ?_ ?_).trans ?_
         · simp [hg]; omega
         · simp [hg]; omega
         · simp [hg, k1, e3, e4, e5]
         · rw [hst]; simp [hg]
           try omega
   · rcases acc with _ | ⟨a0, acc⟩
     · exact absurd (rfl : ([] : List En) = []) (hpa rfl)
     · simp at ha
       have ha' : acc.length ≤ i := by omega
       obtain ⟨r1, x1, r2, x2⟩ := room152 ha' hi hl
       have k1 : List.take (acc.length + 1) (acc ++ [x0]) = acc ++ [x0] := List.take_of_length_le (by simp [hg])
       have s1 : Spare (acc.length + 1) (acc.length + 1) = False := eq_false (Nat.lt_irrefl _)
       have s2 : Spare (acc.length + 1 + 1) (acc.length + 1 + 1) = False := eq_false (Nat.lt_irrefl _)
       have e3 := nP_snoc (a0 :: acc) x0
       have e4 := nP_snoc (a0 :: acc) l[i]
       have e5 := nP_snoc (a0 :: (acc ++ [x0])) l[i]
       rcases (by omega : cb < 0 ∨ cb = 0 ∨ 0 < cb) with hc | hc | hc
       · have hd1 : cb ≤ 0 := by omega
         have hd2 : ¬ cb = 0 := by omega
         simp [hg, h, q, c0, c1, hd1, hd2, r1, x1, s1, r2, x2, s2, e3, e4, e5, k1, hr, hg, hp6]
         try simp (disch := omega) only [wrap_id']
         simp [hg, hd1, hd2] at hst
         refine (ih.out (i + 1, a0 :: (acc ++ [l[i]]), true) _ ?_ ?_ ?_).trans ?_
         · simp [hg]; omega
         · simp [hg]; omega
         · simp [hg, k1, e3, e4, e5]
         · rw [hst]; simp [hg]
           try omega
       · have hd1 : cb ≤ 0 := by omega
         have hd2 : cb = 0 := hc
         simp [hg, h, q, c0, c1, hd1, hd2, r1, x1, s1, r2, x2, s2, e3, e4, e5, k1, hr, hg, hp6]
         try simp (disch := omega) only [wrap_id']
         simp [hg, hd1, hd2] at hst
         refine (ih.out (i + 1, a0 :: acc, true) _ ?_ ?_ ?_).trans ?_
         · simp [hg]; omega
         · simp [hg]; omega
         · simp [hg, k1, e3, e4, e5]
         · rw [hst]; simp [hg]
           try omega
       · have hd1 : ¬ cb ≤ 0 := by omega
         have hd2 : ¬ cb = 0 := by omega
         simp [hg, h, q, c0, c1, hd1, hd2, r1, x1, s1, r2, x2, s2, e3, e4, e5, k1, hr, hg, hp6]
         try simp (disch := omega) only [wrap_id']
         simp [hg, hd1, hd2] at hst
         refine (ih.out (i + 1, a0 :: (acc ++ [l[i]]), true) _ ?_ ?_ ?_).trans ?_
         · simp [hg]; omega
         · simp [hg]; omega
         · simp [hg, k1, e3, e4, e5]
         · rw [hst]; simp [hg]
           try omega
 · have e : i = l.length := by omega
   subst e
   simp [hg]
   cases p
   · rcases acc with _ | ⟨a0, acc⟩
     · have r1 : 152 ≤ Pm.roomBytes := by unfold Pm.roomBytes; omega
       have x1 : 1 ≤ Pm.maxL := by unfold Pm.maxL; omega
       simp [hg, putL, r1, x1, hr, hg, hp6]
     · simp at ha
       have ha' : acc.length ≤ l.length := by omega
       obtain ⟨r1, x1, _, _⟩ := room152 ha' (Nat.le_refl _) hl
       have s1 : Spare (acc.length + 1) (acc.length + 1) = False := eq_false (Nat.lt_irrefl _)
       have e3 := nP_snoc (a0 :: acc) x0
       simp [hg, putL, r1, x1, s1, e3, hr, hg, hp6]
   · rcases acc with _ | ⟨a0, acc⟩
     · exact absurd (rfl : ([] : List En) = []) (hpa rfl)
     · simp [hg, putL, hr, hg, hp6]
 ) Tryz.f152 Tryz.results152 gl152)
end Go.Proofs.YtgbfmdihmnpcdaaGreatDoor
