/- Addresses, by the program. -/
import Derived.Test.YtgbfmdihmnpcdaaGreatDoorV2
namespace Go.Proofs.YtgbfmdihmnpcdaaGreatDoor
open Go Go.Pm Go.Proofs
set_option linter.unusedVariables false
set_option linter.unusedSimpArgs false
set_option maxRecDepth 100000
set_option maxHeartbeats 4000000
def digs (n : Int) : List Int := if n < 10 then [48 + n] else [48 + n / 10, 48 + n % 10]
attribute [simp] nilEq erEq
@[simp] theorem bin_nil (op : BinOp) : binSc .ifc op .nilIface .nilIface = none := rfl
theorem digs_ok {n : Int} (h0 : 0 ≤ n) (h1 : n ≤ 99) : byteOk (digs n) = true := by
 unfold digs
 split <;> simp [byteOk] <;> omega
theorem small1 : ∀ k : Nat, k < 10 → (⟨#[48, 49, 50, 51, 52, 53, 54, 55, 56, 57, 97, 98, 99, 100, 101, 102, 103, 104, 105, 106, 107, 108, 109, 110, 111, 112, 113, 114, 115, 116, 117, 118, 119, 120, 121, 122]⟩ : ByteArray).extract k (k + 1) = strOfNums [48 + (k : Int)] := by decide +kernel
theorem small2 : ∀ k : Nat, k < 100 → (⟨#[48, 48, 48, 49, 48, 50, 48, 51, 48, 52, 48, 53, 48, 54, 48, 55, 48, 56, 48, 57, 49, 48, 49, 49, 49, 50, 49, 51, 49, 52, 49, 53, 49, 54, 49, 55, 49, 56, 49, 57, 50, 48, 50, 49, 50, 50, 50, 51, 50, 52, 50, 53, 50, 54, 50, 55, 50, 56, 50, 57, 51, 48, 51, 49, 51, 50, 51, 51, 51, 52, 51, 53, 51, 54, 51, 55, 51, 56, 51, 57, 52, 48, 52, 49, 52, 50, 52, 51, 52, 52, 52, 53, 52, 54, 52, 55, 52, 56, 52, 57, 53, 48, 53, 49, 53, 50, 53, 51, 53, 52, 53, 53, 53, 54, 53, 55, 53, 56, 53, 57, 54, 48, 54, 49, 54, 50, 54, 51, 54, 52, 54, 53, 54, 54, 54, 55, 54, 56, 54, 57, 55, 48, 55, 49, 55, 50, 55, 51, 55, 52, 55, 53, 55, 54, 55, 55, 55, 56, 55, 57, 56, 48, 56, 49, 56, 50, 56, 51, 56, 52, 56, 53, 56, 54, 56, 55, 56, 56, 56, 57, 57, 48, 57, 49, 57, 50, 57, 51, 57, 52, 57, 53, 57, 54, 57, 55, 57, 56, 57, 57]⟩ : ByteArray).extract (k * 2) (k * 2 + 2) = strOfNums [48 + (k : Int) / 10, 48 + (k : Int) % 10] := by decide +kernel
theorem p186 (i : Int) (h0 : 0 ≤ i) (h1 : i < 100) : phi C0 (lim C0) 186 [(iv i)] [] = some (.pv false (.sc (.string (strOfNums (digs i)))), []) := call0 Tryz.func186 (by kernel_rfl) ((show ∀ fn : Func, fn.results = #[.tmp 2] → lim C0 186 fn [.c (code Tryz.f186)] ⟨_, _⟩ = _ from fun fn hr => by
 obtain ⟨k, rfl⟩ := Int.eq_ofNat_of_zero_le h0
 have w1 : IntKind.i64.wrap ((k : Int) + 1) = k + 1 := wrap_id' (by omega)
 have w2 : IntKind.i64.wrap ((k : Int) * 2) = k * 2 := wrap_id' (by omega)
 have w3 : IntKind.i64.wrap ((k : Int) * 2 + 2) = k * 2 + 2 := wrap_id' (by omega)
 simp [code, Tryz.f186, hr]
 (first | refine ifL_cases (fun h => ?_) (fun h => ?_) | refine gI_cases' (fun h => ?_) (fun h => ?_) | refine gI_cases (fun h => ?_) (fun h => ?_) | refine dI_cases' (fun h => ?_) (fun h => ?_) | refine dI_cases (fun h => ?_) (fun h => ?_)) <;> first | replace h := of_decide_eq_true h | replace h := of_decide_eq_false h | skip
 · have hk : k < 10 := by omega
   have h3 := small1 k hk
   have h4 : ((k : Int) + 1).toNat = k + 1 := by omega
   have h5 : (k : Int) + 1 ≤ 36 := by omega
   have h8 : (k : Int) ≤ k + 1 := by omega
   simp [h, digs, w1, ByteArray.size, h4, h5, h8, hr]
   exact h3
 · have h3 := small2 k (by omega)
   have h4 : ((k : Int) * 2).toNat = k * 2 := by omega
   have h5 : ((k : Int) * 2 + 2).toNat = k * 2 + 2 := by omega
   have h6 : (k : Int) * 2 + 2 ≤ 200 := by omega
   have h7 : (0 : Int) ≤ (k : Int) * 2 := by omega
   have h8 : (k : Int) * 2 ≤ k * 2 + 2 := by omega
   simp [h, digs, w2, w3, ByteArray.size, h4, h5, h6, h7, h8, hr]
   exact h3
 ) Tryz.f186 Tryz.results186)
theorem p170 (i : Int) (h0 : 0 ≤ i) (h1 : i < 100) : phi C0 (lim C0) 170 [(iv i), (iv 10)] [] = some (.pv false (.sc (.string (strOfNums (digs i)))), []) := call0 Tryz.func170 (by kernel_rfl) ((show ∀ fn : Func, fn.results = #[.tmp 4] → lim C0 170 fn [.c (code Tryz.f170)] ⟨_, _⟩ = _ from fun fn hr => by
 have q := p186 i h0 h1
 simp [code, Tryz.f170, hr, q, h0, h1]
 ) Tryz.f170 Tryz.results170)
theorem p143 (i : Int) (h0 : 0 ≤ i) (h1 : i < 100) : phi C0 (lim C0) 143 [(iv i)] [] = some (.pv false (.sc (.string (strOfNums (digs i)))), []) := call0 Tryz.func143 (by kernel_rfl) ((show ∀ fn : Func, fn.results = #[.tmp 2] → lim C0 143 fn [.c (code Tryz.f143)] ⟨_, _⟩ = _ from fun fn hr => by
 have q := p170 i h0 h1
 simp [code, Tryz.f143, hr, q]
 ) Tryz.f143 Tryz.results143)
theorem p111 (i : Int) (h0 : 0 ≤ i) (h1 : i < 100) : phi C0 (lim C0) 111 [(iv i)] [] = some (.pv false (.sc (.string (strOfNums (digs i)))), []) := call0 Tryz.func111 (by kernel_rfl) ((show ∀ fn : Func, fn.results = #[.tmp 2] → lim C0 111 fn [.c (code Tryz.f111)] ⟨_, _⟩ = _ from fun fn hr => by
 have q := p143 i h0 h1
 simp [code, Tryz.f111, hr, q]
 ) Tryz.f111 Tryz.results111)
def numB (l : List Int) : Bool := match Lib.atoiAll (strOfNums l).data.toList with
 | .ok n => decide (0 ≤ n) && decide (n ≤ 99) && decide (digs n = l)
 | _ => false
def offSuf (k l : List Int) : List Int := if hasSuf k l then k.take (k.length - l.length) else k
def offPre (k l : List Int) : List Int := if hasPre k l then k.drop l.length else k
def insB (r : List Int) : Bool :=
 bif hasPre (offSuf r [93]) [34] || hasSuf (offPre (offSuf r [93]) [34]) [34] then hasSuf r [93] && hasPre (offSuf r [93]) [34] && hasSuf (offPre (offSuf r [93]) [34]) [34] && nameB (offSuf (offPre (offSuf r [93]) [34]) [34])
 else hasSuf r [93] && numB (offSuf r [93])
def addrB (l : List Int) : Bool := bif decide (0 ≤ idxB 91 l 0) then nameB (l.take (idxB 91 l 0).toNat) && insB (l.drop ((idxB 91 l 0).toNat + 1)) else nameB l
theorem offSuf_le (k l : List Int) : (offSuf k l).length ≤ k.length := by unfold offSuf; split <;> simp
theorem offPre_le (k l : List Int) : (offPre k l).length ≤ k.length := by unfold offPre; split <;> simp
theorem offSuf_ok {k : List Int} (h : byteOk k = true) (l : List Int) : byteOk (offSuf k l) = true := by unfold offSuf; split; exact byteOk_take h _; exact h
theorem offPre_ok {k : List Int} (h : byteOk k = true) (l : List Int) : byteOk (offPre k l) = true := by unfold offPre; split; exact byteOk_drop h _; exact h
theorem p68 (l : List Int) (hl : byteOk l = true) (hl2 : l.length ≤ 1048576) : phi C0 (lim C0) 68 [.pv false (.sl (nums .u8 l))] [] = some ((bv (addrB l)), []) := call0 Tryz.func68 (by kernel_rfl) ((show ∀ fn : Func, fn.results = #[.tmp 2] → lim C0 68 fn [.c (code Tryz.f68)] ⟨_, _⟩ = _ from fun fn hr => by
 have hp1 := plan68_1
 simp [opsOf, code, Tryz.f68] at hp1
 have hp6 := plan68_6
 simp [opsOf, code, Tryz.f68] at hp6
 have hp7 := plan68_7
 simp [opsOf, code, Tryz.f68] at hp7
 have hp8 := plan68_8
 simp [opsOf, code, Tryz.f68] at hp8
 have hp11 := plan68_11
 simp [opsOf, code, Tryz.f68] at hp11
 have hp12 := plan68_12
 simp [opsOf, code, Tryz.f68] at hp12
 have q1 := fun b => p106 b l 91 hl (by omega) hl2
 have h1 := idxB_in 91 l 0
 by_cases hi : 0 ≤ idxB 91 l 0
 · have e1 : addrB l = (nameB (l.take (idxB 91 l 0).toNat) && insB (l.drop ((idxB 91 l 0).toNat + 1))) := by unfold addrB; rw [decide_eq_true hi]; rfl
   rw [e1]
   generalize idxB 91 l 0 = i at *
   simp only [hi, if_true, decide_true] at q1
   have q2 := fun b => p107 b (l.take i.toNat) (by simp; omega)
   have hr1 := byteOk_drop hl (i.toNat + 1)
   have hr2 : (l.drop (i.toNat + 1)).length ≤ 1048576 := by simp; omega
   generalize l.drop (i.toNat + 1) = r at *
   generalize l.take i.toNat = nm at *
   simp [code, Tryz.f68, hr, hp1, hp6, hp7, hp8, hp11, hp12, q1, q2]
   (first | refine ifL_cases (fun h => ?_) (fun h => ?_) | refine gI_cases' (fun h => ?_) (fun h => ?_) | refine gI_cases (fun h => ?_) (fun h => ?_) | refine dI_cases' (fun h => ?_) (fun h => ?_) | refine dI_cases (fun h => ?_) (fun h => ?_)) <;> first | replace h := of_decide_eq_true h | replace h := of_decide_eq_false h | skip
   · have hnm := h
     have q3 := fun b => p108 b r [93] hr1 rfl hr2 (by simp)
     have i1 := offSuf_ok hr1 [93]
     have i2 := offSuf_le r [93]
     have e3 : (if hasSuf r [93] = true then r.take (r.length - [(93 : Int)].length) else r) = offSuf r [93] := rfl
     rw [e3] at q3
     have q4 := fun b => p109 b (offSuf r [93]) [34] i1 rfl (by omega) (by simp)
     have j1 := offPre_ok i1 [34]
     have j2 := offPre_le (offSuf r [93]) [34]
     have e4 : (if hasPre (offSuf r [93]) [34] = true then (offSuf r [93]).drop [(34 : Int)].length else (offSuf r [93])) = offPre (offSuf r [93]) [34] := rfl
     rw [e4] at q4
     have q5 := fun b => p108 b (offPre (offSuf r [93]) [34]) [34] j1 rfl (by omega) (by simp)
     have k2 := offSuf_le (offPre (offSuf r [93]) [34]) [34]
     have e5 : (if hasSuf (offPre (offSuf r [93]) [34]) [34] = true then (offPre (offSuf r [93]) [34]).take ((offPre (offSuf r [93]) [34]).length - [(34 : Int)].length) else (offPre (offSuf r [93]) [34])) = offSuf (offPre (offSuf r [93]) [34]) [34] := rfl
     rw [e5] at q5
     have q6 := fun b => p107 b (offSuf (offPre (offSuf r [93]) [34]) [34]) (by omega)
     have q7 := p110 (strOfNums (offSuf r [93])) (by rw [strOfNums_size]; omega)
     have q8 := fun i h h' => p111 i h h'
     unfold insB numB
     generalize offSuf (offPre (offSuf r [93]) [34]) [34] = key at *
     generalize hasSuf (offPre (offSuf r [93]) [34]) [34] = two at *
     generalize hasPre (offSuf r [93]) [34] = one at *
     generalize hasSuf r [93] = ended at *
     simp only [rws_single, numP] at q3 q4 q5
     unfold atoiV at q7
     generalize offSuf r [93] = ins at *
     generalize Lib.atoiAll (strOfNums ins).data.toList = A at *
     cases one
     · cases two
       · cases A with
         | ok v =>
          by_cases hv : 0 ≤ v ∧ v ≤ 99
          · have q9 := q8 v hv.1 (by omega)
            have q10 := bin_eql (tk := .str) (digs_ok hv.1 hv.2) i1
            cases ended <;> simp [hnm, q3, q4, q5, q7, p66, inI, hv.1, hv.2, q9, q10, hr, hp1, hp6, hp7, hp8, hp11, hp12]
          · have hv' : (decide (0 ≤ v) && decide (v ≤ 99)) = false := by simpa using hv
            cases ended <;> simp [hnm, q3, q4, q5, q7, p66, inI, hv', hr, hp1, hp6, hp7, hp8, hp11, hp12]
         | _ => cases ended <;> simp [hnm, q3, q4, q5, q7, hr, hp1, hp6, hp7, hp8, hp11, hp12]
       · cases ended <;> simp [hnm, q3, q4, q5, hr, hp1, hp6, hp7, hp8, hp11, hp12]
     · cases two <;> cases ended <;> simp [hnm, q3, q4, q5, q6, hr, hp1, hp6, hp7, hp8, hp11, hp12]
   · simp [h, hr]
 · have e1 : addrB l = nameB l := by unfold addrB; rw [decide_eq_false hi]; rfl
   rw [e1]
   generalize idxB 91 l 0 = i at *
   simp only [hi, if_false, decide_false] at q1
   have q2 := fun b => p107 b l hl2
   simp [code, Tryz.f68, hr, hp1, hp6, hp7, hp8, hp11, hp12, q1, q2]
   (first | refine ifL_cases (fun h => ?_) (fun h => ?_) | refine gI_cases' (fun h => ?_) (fun h => ?_) | refine gI_cases (fun h => ?_) (fun h => ?_) | refine dI_cases' (fun h => ?_) (fun h => ?_) | refine dI_cases (fun h => ?_) (fun h => ?_)) <;> first | replace h := of_decide_eq_true h | replace h := of_decide_eq_false h | skip
   · simp [h, hr, hr, hp1, hp6, hp7, hp8, hp11, hp12]
   · simp [h, hr, hr, hp1, hp6, hp7, hp8, hp11, hp12]
 ) Tryz.f68 Tryz.results68)
end Go.Proofs.YtgbfmdihmnpcdaaGreatDoor
