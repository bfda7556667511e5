/- A run that was broken off is ended: what both answer. -/
import Derived.Test.YtgbfmdihmnpcdaaGreatDoorR3
import Derived.Test.YtgbfmdihmnpcdaaGreatDoorR7
namespace Go.Proofs.YtgbfmdihmnpcdaaGreatDoor
open Go Go.Pm Go.Proofs
set_option linter.unusedVariables false
set_option linter.unusedSimpArgs false
set_option maxRecDepth 100000
set_option maxHeartbeats 4000000
def resB (h : His) : Bool := hisB h && ((lastS h).opn && (decide (h.evs.length < 300) && mayS (lastS h) rst))
def resH (h : His) : His := bif hisB h then (bif resB h then ⟨h.base, h.evs ++ [rst], h.evs.length + 1⟩ else h) else ⟨⟨0, false, [], 0, []⟩, [], 0⟩
theorem doS_rst (s : Sta) : (doS s rst).opn = false := by simp [doS]
theorem t18 (h : His) (ho : HOk h) : phi C3 (lim C3) 18 [.ag [(iv h.base.serial), (bv h.base.opn), .pv false (.sl (nums .u8 h.base.pend)), (iv h.base.act), .pv false (.sl (rws nP h.base.ents)), .pv false (.sl (rws eP h.evs)), (iv h.safe)]] [] = some (.tu [.ag (hT 16 (resH h)), (bv (resB h))], hO 16 (resH h)) := call3 Tryz.func18 (by kernel_rfl) ((show ∀ fn : Func, fn.results = #[.cell 2 51, .tmp 3] → lim C3 18 fn [.c (code Tryz.f18)] ⟨_, _⟩ = _ from fun fn hr => by
 have hp6 := plan18_6
 simp [opsOf, code, Tryz.f18] at hp6
 have q1 := lo3 (p48 h ho)
 cases hb : hisB h with
 | false =>
  rw [hb] at q1
  simp [code, Tryz.f18, hr, hp6, q1, resB, resH, hb]
 | true =>
  rw [hb] at q1
  obtain ⟨h1, h2, h3, h4⟩ := hisB_parts hb
  obtain ⟨hinv, hsok⟩ := lastS_ok ho hb
  have hev := ho.evs
  obtain ⟨s, hs⟩ : ∃ s, lastS h = s := ⟨_, rfl⟩
  have q2 := t49 h ho hb s hs
  rw [hs] at hinv hsok
  have hd := doS_rst s
  cases hop : s.opn with
  | false =>
   have hrb : resB h = false := by simp [resB, hs, hop]
   have q3 := t50_c h s hop
   simp [hop] at q2 q3
   cases hq : h.evs <;> simp only [hq, tnT_nil, tnT_cons, tnH_nil, tnH_cons, tnI_nil, tnI_cons, rws_nil, List.cons_append, List.nil_append] at q1 q2 q3 <;> (try simp at q3) <;> simp [code, Tryz.f18, hr, hp6, q1, q2, q3, resH, hrb, hb, hq] <;> (try simp [rws])
  | true =>
   by_cases hl : h.evs.length < 300
   · cases hm : mayS s rst with
     | false =>
      have hrb : resB h = false := by simp [resB, hs, hm]
      have q3 := t50_m h ho s hsok hinv hop hl hm
      simp [hop] at q2 q3
      cases hq : h.evs <;> simp only [hq, tnT_nil, tnT_cons, tnH_nil, tnH_cons, tnI_nil, tnI_cons, rws_nil, List.cons_append, List.nil_append] at q1 q2 q3 <;> (try simp at q3) <;> simp [code, Tryz.f18, hr, hp6, q1, q2, q3, resH, hrb, hb, hq] <;> (try simp [rws])
     | true =>
      have hrb : resB h = true := by simp [resB, hs, hm, hop, hl, hb]
      have q3 := t50_t h ho s hsok hinv hop hl hm
      generalize doS s rst = s2 at *
      simp [hop] at q2 q3
      cases hq : h.evs <;> simp only [hq, tnT_nil, tnT_cons, tnH_nil, tnH_cons, tnI_nil, tnI_cons, stE_nil, stE_cons, rws_nil, List.cons_append, List.nil_append, List.length_nil, List.length_cons] at q1 q2 q3 <;> (try simp at q3) <;> simp [code, Tryz.f18, hr, hp6, q1, q2, q3, resH, hrb, hb, hq, hd]
   · have hl3 : h.evs.length = 300 := by omega
     have hrb : resB h = false := by simp [resB, hl]
     have q3 := t50_f h ho s hsok hinv hop hl3
     simp [hop] at q2 q3
     cases hq : h.evs <;> simp only [hq, tnT_nil, tnT_cons, tnH_nil, tnH_cons, tnI_nil, tnI_cons, rws_nil, List.cons_append, List.nil_append] at q1 q2 q3 <;> (try simp at q3) <;> simp [code, Tryz.f18, hr, hp6, q1, q2, q3, resH, hrb, hb, hq] <;> (try simp [rws])
 ) Tryz.f18 Tryz.results18)
theorem resH_ok {h : His} (ho : HOk h) : HOk (resH h) := by
 unfold resH
 cases hb : hisB h with
 | false => exact ⟨⟨by simp, rfl, by simp, fun x hx => by cases hx⟩, by simp, fun x hx => by cases hx⟩
 | true =>
  cases hr : resB h with
  | false => exact ho
  | true =>
   have hl : h.evs.length < 300 := by
    simp only [resB, Bool.and_eq_true, decide_eq_true_eq] at hr
    exact hr.2.2.1
   refine ⟨ho.base, by simp; omega, fun x hx => ?_⟩
   rcases List.mem_append.1 hx with hx | hx
   · exact ho.all x hx
   · rw [List.mem_singleton.1 hx]; exact rst_ok
theorem t16 (h : His) (ho : HOk h) : phi C3 (lim C3) 16 [.ag [(iv h.base.serial), (bv h.base.opn), .pv false (.sl (nums .u8 h.base.pend)), (iv h.base.act), .pv false (.sl (rws nP h.base.ents)), .pv false (.sl (rws eP h.evs)), (iv h.safe)]] [] = some (.tu [.ag (hT 16 (resH h)), (bv (resB h))], hO 16 (resH h)) := call3 Tryz.func16 (by kernel_rfl) ((show ∀ fn : Func, fn.results = #[.cell 2 51, .tmp 3] → lim C3 16 fn [.c (code Tryz.f16)] ⟨_, _⟩ = _ from fun fn hr => by
 have hp6 := plan16_6
 simp [opsOf, code, Tryz.f16] at hp6
 have q1 := lo3 (p42 h ho)
 cases hb : hisB h with
 | false =>
  rw [hb] at q1
  simp [code, Tryz.f16, hr, hp6, q1, resB, resH, hb]
 | true =>
  rw [hb] at q1
  obtain ⟨h1, h2, h3, h4⟩ := hisB_parts hb
  obtain ⟨hinv, hsok⟩ := lastS_ok ho hb
  have hev := ho.evs
  obtain ⟨s, hs⟩ : ∃ s, lastS h = s := ⟨_, rfl⟩
  have q2 := lo3 (p43 h ho hb s hs)
  have q4 := t45 (resH h) (resH_ok ho)
  rw [hs] at hinv hsok
  cases hop : s.opn with
  | false =>
   have hrb : resB h = false := by simp [resB, hs, hop]
   have hrh : resH h = h := by simp [resH, hrb, hb]
   have q3 := lo3 (p44_c h s hop)
   rw [hrh] at q4
   simp [hop] at q2 q3
   simp [code, Tryz.f16, hr, hp6, q1, q2, q3, q4, hrh, hrb, hb]
  | true =>
   by_cases hl : h.evs.length < 300
   · cases hm : mayS s rst with
     | false =>
      have hrb : resB h = false := by simp [resB, hs, hm]
      have hrh : resH h = h := by simp [resH, hrb, hb]
      have q3 := lo3 (p44_m h s hsok hinv.ser hl hm hop)
      rw [hrh] at q4
      simp [hop] at q2 q3
      simp [code, Tryz.f16, hr, hp6, q1, q2, q3, q4, hrh, hrb, hb]
     | true =>
      have hrb : resB h = true := by simp [resB, hs, hm, hop, hl, hb]
      have hrh : resH h = ⟨h.base, h.evs ++ [rst], h.evs.length + 1⟩ := by simp [resH, hrb, hb]
      have hser : 0 ≤ s.serial ∧ s.serial < 1000000 := ⟨hinv.ser.1, by rw [rst_may] at hm; simp at hm; exact hm.1⟩
      by_cases hp : s.pend = []
      · have q3 := lo3 (p44_gn h s hsok hser hl hm hp hop)
        rw [hrh] at q4
        have hlen : (h.evs ++ [rst]).length = h.evs.length + 1 := by simp
        generalize h.evs ++ [rst] = evs2 at *
        have ht : List.take (h.evs.length + 1) evs2 = evs2 := List.take_of_length_le (by omega)
        simp [hop] at q2 q3
        simp [code, Tryz.f16, hr, hp6, q1, q2, q3, q4, hrh, hrb, hb, hlen, ht]
      by_cases h0 : 0 ≤ fndN s.pend s.ents 0
      · obtain ⟨j, hj⟩ := Int.eq_ofNat_of_zero_le h0
        have hlt := fndN_lt s.pend s.ents 0
        have hjl : j < s.ents.length := by rw [hj] at hlt; omega
        have q3 := lo3 (p44_ga h s hsok hser hl hm hp j hj _ (List.getElem?_eq_getElem hjl) hop)
        rw [hrh] at q4
        have hlen : (h.evs ++ [rst]).length = h.evs.length + 1 := by simp
        generalize h.evs ++ [rst] = evs2 at *
        have ht : List.take (h.evs.length + 1) evs2 = evs2 := List.take_of_length_le (by omega)
        simp [hop] at q2 q3
        simp [code, Tryz.f16, hr, hp6, q1, q2, q3, q4, hrh, hrb, hb, hlen, ht]
      · have q3 := lo3 (p44_gb h s hsok hser hl hm hp h0 hop)
        rw [hrh] at q4
        have hlen : (h.evs ++ [rst]).length = h.evs.length + 1 := by simp
        generalize h.evs ++ [rst] = evs2 at *
        have ht : List.take (h.evs.length + 1) evs2 = evs2 := List.take_of_length_le (by omega)
        simp [hop] at q2 q3
        simp [code, Tryz.f16, hr, hp6, q1, q2, q3, q4, hrh, hrb, hb, hlen, ht]
   · have hrb : resB h = false := by simp [resB, hl]
     have hrh : resH h = h := by simp [resH, hrb, hb]
     have q3 := lo3 (p44_f h s hsok hinv.ser (by omega) ho.evs hop)
     rw [hrh] at q4
     simp [hop] at q2 q3
     simp [code, Tryz.f16, hr, hp6, q1, q2, q3, q4, hrh, hrb, hb]
 ) Tryz.f16 Tryz.results16)
end Go.Proofs.YtgbfmdihmnpcdaaGreatDoor
