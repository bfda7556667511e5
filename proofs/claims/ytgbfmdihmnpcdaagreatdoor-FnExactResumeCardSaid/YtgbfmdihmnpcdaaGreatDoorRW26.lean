/- Histories, by the program: which are ok; their texts. -/
import Derived.Test.YtgbfmdihmnpcdaaGreatDoorRW16
import Derived.Test.YtgbfmdihmnpcdaaGreatDoorRW23
namespace Go.Proofs.YtgbfmdihmnpcdaaGreatDoor
open Go Go.Pm Go.Proofs
set_option linter.unusedVariables false
set_option linter.unusedSimpArgs false
set_option maxRecDepth 100000
set_option maxHeartbeats 4000000
def sP (s : Sta) : List PV := [.sc (.int .i64 s.serial), .sc (.bool s.opn), .sl (nums .u8 s.pend), .sc (.int .i64 s.act), .sl (rws nP s.ents)]
@[simp] theorem sP_eq (s : Sta) : sP s = [.sc (.int .i64 s.serial), .sc (.bool s.opn), .sl (nums .u8 s.pend), .sc (.int .i64 s.act), .sl (rws nP s.ents)] := rfl
theorem sP_snoc (l : List Sta) (s : Sta) : rws sP l ++ [[.sc (.int .i64 s.serial), .sc (.bool s.opn), .sl (nums .u8 s.pend), .sc (.int .i64 s.act), .sl (rws nP s.ents)]] = rws sP (l ++ [s]) := by
 have h := rws_app sP l [s]
 exact h
def tlS : Sta → List Ev → List Sta
 | _, [] => []
 | s, e :: l => doS s e :: tlS (doS s e) l
theorem tlS_len (s : Sta) (l : List Ev) : (tlS s l).length = l.length := by
 induction l generalizing s with
 | nil => rfl
 | cons e l ih => simp [tlS, ih]
structure HOk (h : His) : Prop where
 base : SOk h.base
 evs : h.evs.length ≤ 1048576
 all : ∀ e ∈ h.evs, EOk e
def hisB (h : His) : Bool := stB h.base && (decide (h.evs.length ≤ 300) && (inI h.safe 0 h.evs.length && okS h.base h.evs))
theorem pDo (s : Sta) (e : Ev) (hs : SOk s) (he : EOk e) (hi : InvS s) (hb : evB e = true) (hm : mayS s e = true) : phi C0 (lim C0) 129 [.ag [(iv s.serial), (bv s.opn), .pv false (.sl (nums .u8 s.pend)), (iv s.act), .pv false (.sl (rws nP s.ents))], .ag [(iv e.kind), .pv false (.sl (nums .u8 e.addr)), (iv e.act), (iv e.val.kind), (iv e.val.n), .pv false (.sl (nums .u8 e.val.s)), .pv false (.sl (rws byP e.val.k)), .pv false (.sl (rws vP e.val.l)), .pv false (.sl (rws byP e.deps))]] [] = some (.tu [.ag [(iv ((doS s e).serial)), (bv ((doS s e).opn)), .pv false (.sl (nums .u8 (doS s e).pend)), (iv ((doS s e).act)), .pv false (.sl (rws nP (doS s e).ents))], (bv true)], []) := by
 obtain ⟨hk, ha, h1, h2⟩ := evB_kind hb
 have hat := bsN_at (a := e.addr) hi.srt
 have hap := bsN_at (a := s.pend) hi.srt
 rcases hk with k | k | k | k | k | k | k
 · rw [p129_0 s e hs he hi hb hm k]
   simp [doS, k]
 · rw [p129_1 s e hs he hi hb hm k]
   simp [doS, k]
 · have hput := put_is (x := ⟨e.addr, e.val, e.deps, false, s.serial + 1⟩) hi.srt
   dsimp only at hput
   cases hf : fdN e.addr s.ents (bsN e.addr s.ents 0 s.ents.length)
   · rw [p129_2b s e hs he hi hb hm k _ rfl hf hat.2.2]
     simp [doS, k, hput, hf]
   · rw [p129_2a s e hs he hi hb hm k _ rfl hf (fndN_bs hi.srt hf).2]
     simp [doS, k, hput, hf]
 · have hm3 := hm
   simp [mayS, k] at hm3
   obtain ⟨_, hp, hpe, hact⟩ := hm3
   have hthere : fdN e.addr s.ents (bsN e.addr s.ents 0 s.ents.length) = true := by
    rw [fdN_hasN hi.srt, ← hpe, (hi.opn hp).2, hact]
    rfl
   have hfn := fndN_bs hi.srt hthere
   rw [p129_3 s e hs he hi hb hm k _ rfl hfn.2]
   simp [doS, k, hpe, hfn.1]
 · have hm3 := hm
   simp [mayS, k] at hm3
   obtain ⟨_, hp, hpe⟩ := hm3
   have ho := (hi.opn hp).1
   cases hf : fdN s.pend s.ents (bsN s.pend s.ents 0 s.ents.length)
   · rw [p129_4c s e hs he hi hb hm k hp hf]
     have := fndN_no hi.srt hf
     simp [doS, k, tntS, hp, this, ho]
   · have hfn := fndN_bs hi.srt hf
     have hx0 := List.getElem?_eq_getElem hfn.2
     rw [p129_4a s e hs he hi hb hm (.inl k) hp _ _ rfl hx0 hf]
     simp [doS, k, tntS, hp, hfn.1, hx0, ho]
 · rw [p129_5 s e hs he hi hb hm k]
   simp [doS, k]
 · by_cases hp : s.pend = []
   · rw [p129_4n s e hs he hi hb hm (.inr k) hp]
     simp [doS, k, tntS, hp]
   cases hf : fdN s.pend s.ents (bsN s.pend s.ents 0 s.ents.length)
   · rw [p129_6b s e hs he hi hb hm k hp _ rfl hap.2.2 hf]
     have := fndN_no hi.srt hf
     have hput := put_is (x := ⟨s.pend, ⟨5, 0, [], [], []⟩, [], true, s.serial + 1⟩) hi.srt
     dsimp only at hput
     simp [doS, k, tntS, hp, this, hput, hf]
   · have hfn := fndN_bs hi.srt hf
     have hx0 := List.getElem?_eq_getElem hfn.2
     rw [p129_4a s e hs he hi hb hm (.inr k) hp _ _ rfl hx0 hf]
     simp [doS, k, tntS, hp, hfn.1, hx0]
theorem p91 (h : His) (ho : HOk h) : phi C0 (lim C0) 91 [.ag [(iv h.base.serial), (bv h.base.opn), .pv false (.sl (nums .u8 h.base.pend)), (iv h.base.act), .pv false (.sl (rws nP h.base.ents)), .pv false (.sl (rws eP h.evs)), (iv h.safe)]] [] = some (.tu [.pv false (.sl (rws sP (if hisB h then h.base :: tlS h.base h.evs else []))), (bv (hisB h))], []) := call0 Tryz.func91 (by kernel_rfl) ((show ∀ fn : Func, fn.results = #[.tmp 2, .tmp 3] → globs fn = [0, 1, 27, 35, 34, 36, 33, 6, 42, 5, 4, 8, 53, 7, 2, 3] → lim C0 91 fn [.c (code Tryz.f91)] ⟨_, _⟩ = _ from fun fn hr hg => by
 have hp9 := plan91_9
 simp [opsOf, code, Tryz.f91] at hp9
 have q0 := p126 h.base.serial h.base.opn h.base.pend h.base.act h.base.ents ho.base
 have q1 := p127 h.base ho.base
 have q2 := p66 h.safe 0 h.evs.length
 have hev := ho.evs
 unfold hisB
 cases i0 : stB h.base
 · simp [code, Tryz.f91, hr, hg, hp9, q0, i0]
 have hbase := stB_inv i0
 have hbok := ho.base
 have hbl : h.base.ents.length ≤ 16 := by simp only [stB, Bool.and_eq_true, decide_eq_true_eq] at i0; exact i0.1.1.2
 by_cases i1 : h.evs.length ≤ 300
 · have c1 : ¬ (300 : Int) < (h.evs.length : Nat) := by omega
   cases i2 : inI h.safe 0 h.evs.length
   · simp [code, Tryz.f91, hr, hg, hp9, q0, q1, q2, i0, i1, i2, c1]
   simp [code, Tryz.f91, hr, hg, hp9, q0, q1, q2, i0, i1, i2, c1]
   refine (loop_to (s0 := ?s1) (fun x => h.evs.length - x.1) (fun x => [(4, .ref 18 0 (x.1 + 1)), (35, (iv ((x.1 : Nat))))]) (fun x => [(16, .box [(iv h.base.serial), (bv h.base.opn), .pv false (.sl (nums .u8 h.base.pend)), (iv h.base.act), .pv false (.sl (rws nP h.base.ents)), .pv false (.sl (rws eP h.evs)), (iv h.safe)]), (18, .row .own 48 5 (rws sP x.2.1))]) (fun x K => (if okS x.2.2 (h.evs.drop x.1) = true then K [(4, .ref 18 0 (h.evs.length + 1)), (35, (iv h.evs.length))] [(16, .box [(iv h.base.serial), (bv h.base.opn), .pv false (.sl (nums .u8 h.base.pend)), (iv h.base.act), .pv false (.sl (rws nP h.base.ents)), .pv false (.sl (rws eP h.evs)), (iv h.safe)]), (18, .row .own 48 5 (rws sP (x.2.1 ++ tlS x.2.2 (h.evs.drop x.1))))] else some (.tu [.pv false (.sl []), (bv false)], []))) (fun x => x.1 ≤ h.evs.length ∧ x.2.1.length = x.1 + 1 ∧ x.2.1[x.1]? = some x.2.2 ∧ InvS x.2.2 ∧ SOk x.2.2 ∧ x.2.2.ents.length ≤ 16 + x.1) ((0 : Nat), ([h.base], h.base)) ?hc1 ?h01 ?hs1 ?step1).trans ?r1
   case hc1 => simp; rfl
   case h01 => first | (simp; done) | (simp [*]; done) | exact ⟨by simp, ⟨rfl⟩⟩ | grind | (simp; omega)
   case hs1 => first | (simp; done) | (simp [*]; done)
   case r1 =>
    cases hk : okS h.base h.evs
    · simp [hg, hk]
    · have hl := tlS_len h.base h.evs
      have ht : List.take h.evs.length (tlS h.base h.evs) = tlS h.base h.evs := List.take_of_length_le (by rw [tlS_len]; exact Nat.le_refl _)
      simp [hg, hk, hl, ht, hr, hg, hp9]
   rintro k ⟨i, L, s⟩ ⟨hi, ha, hLi, hinv, hsok, hlen⟩ ih
   dsimp only at hi ha hLi hinv hsok hlen
   have hiL : i < L.length := by omega
   have hLg : L[i] = s := by rw [List.getElem?_eq_getElem hiL] at hLi; exact Option.some.inj hLi
   simp [hg]
   by_cases hlt : i < h.evs.length
   · have he := ho.all _ (List.getElem_mem hlt)
     have r1 := p128 h.evs[i] he
     have hd := drop_at hlt
     have hI : (i : Int) < (i : Int) + 1 := by omega
     rw [hd]
     simp only [okS, tlS]
     clear hd
     by_cases hb : evB h.evs[i] = true
     · rw [hb] at r1
       by_cases hm : mayS s h.evs[i] = true
       · have r2 := pDo s h.evs[i] hsok he hinv hb hm
         have hn := doS_inv hinv hm
         have ho2 := doS_ok hsok he (by omega)
         have hl2 := doS_len s h.evs[i]
         obtain ⟨nx, hnx⟩ : ∃ nx, doS s h.evs[i] = nx := ⟨_, rfl⟩
         rw [hnx] at r2 hn ho2 hl2
         simp only [hnx]
         have e3 := sP_snoc L nx
         have m2 : Spare (i + 1) (i + 1) = False := eq_false (Nat.lt_irrefl _)
         have m3 : (i + 1 + 1) * 72 ≤ Pm.roomBytes := by unfold Pm.roomBytes; omega
         have m4 : i + 1 + 1 ≤ Pm.maxL := by unfold Pm.maxL; omega
         have m5 : List.take (i + 1) L = L := List.take_of_length_le (by omega)
         have m6 : L.length ≤ i + 1 := by omega
         simp [hg, hlt, r1, r2, hiL, hLg, hI, ha, m2, m3, m4, m5, m6, e3, hb, hm, hr, hg, hp9]
         try simp (disch := omega) only [wrap_id']
         refine (ih.out (i + 1, L ++ [nx], nx) _ ?_ ?_ ?_).trans ?_
         · simp [hg]; omega
         · refine ⟨by dsimp only; omega, by simp [hg, ha], ?_, hn, ho2, by dsimp only; omega⟩
           dsimp only
           rw [List.getElem?_append_right (by omega), ha]
           simp [hg]
         · simp [hg, e3]
         · simp [hg]
       · have hm : mayS s h.evs[i] = false := by simpa using hm
         have r2 := p129_f s h.evs[i] hsok he hinv hb hm
         simp [hg, hlt, r1, r2, hiL, hLg, hI, hb, hm, hr, hg, hp9]
     · have hb : evB h.evs[i] = false := by simpa using hb
       rw [hb] at r1
       simp [hg, hlt, r1, hb, hr, hg, hp9]
   · have e : i = h.evs.length := by omega
     subst e
     simp [hg, okS, tlS]
 · have c1 : (300 : Int) < (h.evs.length : Nat) := by omega
   simp [code, Tryz.f91, hr, hg, hp9, q0, i0, i1, c1]
 ) Tryz.f91 Tryz.results91 gl91)
theorem p48 (h : His) (ho : HOk h) : phi C0 (lim C0) 48 [.ag [(iv h.base.serial), (bv h.base.opn), .pv false (.sl (nums .u8 h.base.pend)), (iv h.base.act), .pv false (.sl (rws nP h.base.ents)), .pv false (.sl (rws eP h.evs)), (iv h.safe)]] [] = some ((bv (hisB h)), []) := call0 Tryz.func48 (by kernel_rfl) ((show ∀ fn : Func, fn.results = #[.tmp 2] → lim C0 48 fn [.c (code Tryz.f48)] ⟨_, _⟩ = _ from fun fn hr => by
 have hp1 := plan48_1
 simp [opsOf, code, Tryz.f48] at hp1
 have q := p91 h ho
 simp [code, Tryz.f48, hr, hp1, q]
 ) Tryz.f48 Tryz.results48)
end Go.Proofs.YtgbfmdihmnpcdaaGreatDoor
namespace Go.Proofs.YtgbfmdihmnpcdaaGreatDoor
open Go Go.Pm Go.Proofs
set_option linter.unusedVariables false
set_option linter.unusedSimpArgs false
def lnT (n : Int) (e : Ev) : List Int := digT n ++ 32 :: (evT e ++ [10])
def hisT : Int → List Ev → List Int
 | _, [] => []
 | n, e :: l => lnT (n + 1) e ++ hisT (n + 1) l
@[simp] theorem hisT_nil (n : Int) : hisT n [] = [] := rfl
end Go.Proofs.YtgbfmdihmnpcdaaGreatDoor
