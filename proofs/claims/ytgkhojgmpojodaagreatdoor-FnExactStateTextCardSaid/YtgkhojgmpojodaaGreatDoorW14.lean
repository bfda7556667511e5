/- Texts of states, by the program. -/
import Derived.Test.YtgkhojgmpojodaaGreatDoorW10
namespace Go.Proofs.YtgkhojgmpojodaaGreatDoor
open Go Go.Pm Go.Proofs
set_option linter.unusedVariables false
set_option linter.unusedSimpArgs false
def entT (x : En) : List Int := x.addr ++ 32 :: (digT x.turned ++ ((if x.taint then [32, 116, 97, 105, 110, 116, 101, 100] else []) ++ 32 :: (sayV x.val ++ [10])))
def entsT : List En → List Int
  | [] => []
  | x :: l => entT x ++ entsT l
@[simp] theorem entsT_nil : entsT [] = [] := rfl
theorem entsT_app (l k : List En) : entsT (l ++ k) = entsT l ++ entsT k := by
  induction l with
  | nil => rfl
  | cons a l ih => simp [entsT, ih]
theorem entsT_take {l : List En} {i : Nat} (h : i < l.length) : entsT (l.take (i + 1)) = entsT (l.take i) ++ entT l[i] := by rw [take_at h, entsT_app]; simp [entsT]
def headT (serial : Int) (opn : Bool) (pend : List Int) (act : Int) : List Int := 115 :: 101 :: 114 :: 105 :: 97 :: 108 :: 32 :: (digT serial ++ 10 :: (if opn then 111 :: 112 :: 101 :: 110 :: ((if pend = [] then [] else 32 :: (actT act ++ 32 :: pend)) ++ [10]) else []))
def stT (s : Sta) : List Int := headT s.serial s.opn s.pend s.act ++ entsT s.ents
/-- What is asked of an entry's text. -/
def eB (x : En) : Prop := x.addr.length ≤ 1048576 ∧ 1 ≤ x.turned ∧ x.turned ≤ 1000000 ∧ valB x.val = true
theorem entT_len {x : En} (h : eB x) : (entT x).length ≤ 1051600 := by
  obtain ⟨h1, h2, h3, h4⟩ := h
  have hd := digT_len (n := x.turned) (by omega) (by omega)
  have hv5 : shV x.val 5 = true ∧ ptV x.val ≤ 40 := by simpa [valB] using h4
  have := say_len x.val 5 hv5.1
  unfold entT
  cases x.taint <;> simp <;> omega
theorem entsT_len : ∀ {l : List En}, (∀ x ∈ l, eB x) → (entsT l).length ≤ 1051600 * l.length
  | [], _ => by simp
  | x :: l, h => by
    have ih := entsT_len (l := l) fun y hy => h y (List.mem_cons_of_mem _ hy)
    have := entT_len (h x (List.mem_cons_self ..))
    simp only [entsT, List.length_append, List.length_cons]
    omega
theorem headT_len {serial : Int} {opn : Bool} {pend : List Int} {act : Int} (h1 : 0 ≤ serial ∧ serial ≤ 1000000) (h2 : pend.length ≤ 1048576) : (headT serial opn pend act).length ≤ 1048700 := by
  have hd := digT_len (n := serial) (by omega) (by omega)
  have ha := (actT_ok act).2.1
  unfold headT
  cases opn
  · simp; omega
  · by_cases hp : pend = []
    · simp [hp]; omega
    · simp [hp]; omega
theorem stB_ents {s : Sta} (hs : SOk s) (h : stB s = true) : (0 ≤ s.serial ∧ s.serial ≤ 1000000) ∧ s.ents.length ≤ 16 ∧ (∀ x ∈ s.ents, eB x) ∧ (s.pend ≠ [] → s.opn = true ∧ 1 ≤ s.act ∧ s.act ≤ 4) := by
  simp only [stB, Bool.and_eq_true, decide_eq_true_eq] at h
  obtain ⟨⟨⟨h1, h2⟩, h3⟩, h4⟩ := h
  have i1 : 0 ≤ s.serial ∧ s.serial ≤ 1000000 := by simpa [inI] using h1
  refine ⟨i1, h2, fun x hx => ?_, fun hp => ?_⟩
  · have := (ascN_pair h3).2.2 x hx
    simp only [entB, Bool.and_eq_true] at this
    have h5 : 1 ≤ x.turned ∧ x.turned ≤ s.serial := by simpa [inI] using this.2
    have h6 := this.1.1.2
    simp only [kmapB, Bool.and_eq_true] at h6
    exact ⟨(hs.all x hx).addr, by omega, by omega, h6.1.2⟩
  · rw [if_neg hp] at h4
    simp only [Bool.and_eq_true] at h4
    exact ⟨h4.1.1.1, by simpa [inI] using h4.1.2⟩
set_option maxRecDepth 100000 in
set_option maxHeartbeats 4000000 in
theorem e27 (fn : Func) (hr : fn.results = #[.tmp 2]) (hg : globs fn = [0, 1, 8, 17, 3, 23, 42, 41, 43, 40, 5, 56, 2]) (serial : Int) (opn : Bool) (pend : List Int) (act : Int) (ents : List En) (hs : SOk ⟨serial, opn, pend, act, ents⟩) : lim C0 27 fn [.c (code Tryz.f27)] ⟨number [.ag [(.pv false (.sc (.int .i64 serial))), (.pv false (.sc (.bool opn))), .pv false (.sl (nums .u8 pend)), (.pv false (.sc (.int .i64 act))), .pv false (.sl (rws nP ents))]] 0, []⟩ = some (.ref 16 0 (if stB ⟨serial, opn, pend, act, ents⟩ then stT ⟨serial, opn, pend, act, ents⟩ else []).length, [(16, .row .own 5 1 (nums .u8 (if stB ⟨serial, opn, pend, act, ents⟩ then stT ⟨serial, opn, pend, act, ents⟩ else [])))]) := by
  have hp7 := plan27_7
  simp [opsOf, code, Tryz.f27] at hp7
  have hp12 := plan27_12
  simp [opsOf, code, Tryz.f27] at hp12
  have hp15 := plan27_15
  simp [opsOf, code, Tryz.f27] at hp15
  have q0 := p81 serial opn pend act ents hs
  have hb := @stB_ents ⟨serial, opn, pend, act, ents⟩ hs
  cases hst : stB ⟨serial, opn, pend, act, ents⟩
  · rw [hst] at q0
    simp [code, Tryz.f27, hr, hg, hp7, hp12, hp15, q0]
  rw [hst] at q0 hb
  obtain ⟨b1, b2, b3, b4⟩ := hb rfl
  dsimp only at b1 b2 b3 b4
  simp only [if_true]
  have q1 := p65 serial [115, 101, 114, 105, 97, 108, 32] (by omega) (by omega) (by simp [hg])
  have hd := digT_len (n := serial) (by omega) (by omega)
  have hz : (⟨#[115, 101, 114, 105, 97, 108, 32]⟩ : ByteArray).size = 7 := rfl
  have hall : ∀ x ∈ ents, NOk x := hs.all
  have hpl : pend.length ≤ 1048576 := hs.pend
  clear hs hst
  have eR : nums .u8 [115, 101, 114, 105, 97, 108, 32] = [[.sc (.int .u8 115)], [.sc (.int .u8 101)], [.sc (.int .u8 114)], [.sc (.int .u8 105)], [.sc (.int .u8 97)], [.sc (.int .u8 108)], [.sc (.int .u8 32)]] := rfl
  have eL : ([115, 101, 114, 105, 97, 108, 32] : List Int).length = 7 := rfl
  rw [eR, eL] at q1
  obtain ⟨t, ht⟩ : ∃ t, t = stT ⟨serial, opn, pend, act, ents⟩ := ⟨_, rfl⟩
  rw [← ht]
  unfold stT headT at ht
  dsimp only at ht
  generalize digT serial = d at *
  cases opn
  · have hp' : True := trivial
    have g0 := room_ok (n := 7 + d.length + 1) (by omega)
    have m0 := max_ok' (n := 7 + d.length + 1) (by omega)
    have s0 := spare_no (a := 7 + d.length) (b := d.length + 1 + 1 + 1 + 1 + 1 + 1 + 1) (by omega)
    have l0 := le_ok' (a := 7 + d.length) (b := d.length + 1 + 1 + 1 + 1 + 1 + 1 + 1) (by omega)
    have k0 : List.take (7 + d.length) (115 :: 101 :: 114 :: 105 :: 97 :: 108 :: 32 :: d) = 115 :: 101 :: 114 :: 105 :: 97 :: 108 :: 32 :: d := List.take_of_length_le (by first | omega | (simp [hg]; done) | (simp [hg]; omega))
    simp [code, Tryz.f27, hr, hg, hp7, hp12, hp15, q0, q1, hz, g0, m0, s0, l0, k0]
    have eX : nums .u8 (115 :: 101 :: 114 :: 105 :: 97 :: 108 :: 32 :: (d ++ [10])) = nums .u8 (115 :: 101 :: 114 :: 105 :: 97 :: 108 :: 32 :: (d ++ [10])) := by simp [hg, rws]
    have hN : (115 :: 101 :: 114 :: 105 :: 97 :: 108 :: 32 :: (d ++ [10])).length = 7 + d.length + 1 := by simp [hg]; try omega
    have ht' : t = (115 :: 101 :: 114 :: 105 :: 97 :: 108 :: 32 :: (d ++ [10])) ++ entsT ents := by rw [ht]; simp [hg, hp']
    have hNl : 7 + d.length + 1 ≤ 1048800 := by omega
    try rw [eX]
    clear ht eX
    generalize 7 + d.length + 1 = N at *
    generalize 115 :: 101 :: 114 :: 105 :: 97 :: 108 :: 32 :: (d ++ [10]) = H at *
    refine (loop_to (s0 := ?s1) (fun i => ents.length - i) (fun i => [(3, .ref 18 0 (N + (entsT (ents.take i)).length)), (42, (.pv false (.sc (.int .i64 ((i : Nat))))))]) (fun i => [(16, .box [(.pv false (.sc (.int .i64 serial))), (.pv false (.sc (.bool false))), .pv false (.sl (nums .u8 pend)), (.pv false (.sc (.int .i64 act))), .pv false (.sl (rws nP ents))]), (18, .row .own 5 1 (nums .u8 (H ++ entsT (ents.take i))))]) (fun i K => K [(3, .ref 18 0 (N + (entsT ents).length)), (42, (.pv false (.sc (.int .i64 ents.length))))] [(16, .box [(.pv false (.sc (.int .i64 serial))), (.pv false (.sc (.bool false))), .pv false (.sl (nums .u8 pend)), (.pv false (.sc (.int .i64 act))), .pv false (.sl (rws nP ents))]), (18, .row .own 5 1 (nums .u8 (H ++ entsT ents)))]) (fun i => i ≤ ents.length) 0 ?hc1 ?h01 ?hs1 ?step1).trans ?r1
    case hc1 => simp; rfl
    case h01 => first | (simp; done) | (simp [*]; done) | exact ⟨by simp, ⟨rfl⟩⟩ | grind | (simp; omega)
    case hs1 => first | (simp; done) | (simp [*]; done)
    case r1 =>
      rw [ht']
      simp [hg, hN, hr, hg, hp7, hp12, hp15]
    intro k i hi ih
    simp [hg]
    (first | refine ifL_cases (fun h => ?_) (fun h => ?_) | refine gI_cases' (fun h => ?_) (fun h => ?_) | refine gI_cases (fun h => ?_) (fun h => ?_) | refine dI_cases' (fun h => ?_) (fun h => ?_) | refine dI_cases (fun h => ?_) (fun h => ?_)) <;> first | replace h := of_decide_eq_true h | replace h := of_decide_eq_false h | skip
    · have hlt : i < ents.length := h
      have hx := hall _ (List.getElem_mem hlt)
      obtain ⟨x1, x2, x3, x4⟩ := b3 _ (List.getElem_mem hlt)
      have hE := entsT_len (l := ents.take i) (fun x h => b3 x (List.mem_of_mem_take h))
      have hE2 : (ents.take i).length ≤ 16 := by simp [hg]; omega
      have e1 := entsT_take hlt
      have hw2 : IntKind.i64.wrap ((i : Int) + 1) = i + 1 := wrap_id' (by omega)
      have hz2 : (⟨#[32, 116, 97, 105, 110, 116, 101, 100]⟩ : ByteArray).size = 8 := rfl
      have hv5 : shV ents[i].val 5 = true ∧ ptV ents[i].val ≤ 40 := by simpa [valB] using x4
      have hu := say_len ents[i].val 5 hv5.1
      have q6 := fun a => pText ents[i].val (sh_say _ 5 hv5.1 hx.vl (by have := hx.vp; omega)) a
      have hgl := digT_len (n := ents[i].turned) (by omega) (by omega)
      obtain ⟨d, hd0⟩ : ∃ d, ents[i].addr = d := ⟨_, rfl⟩
      have e2 : entT ents[i] = d ++ 32 :: (digT ents[i].turned ++ ((if ents[i].taint then [32, 116, 97, 105, 110, 116, 101, 100] else []) ++ 32 :: (sayV ents[i].val ++ [10]))) := by rw [← hd0]; rfl
      rw [hd0] at x1
      generalize hEE : entsT (ents.take i) = E at *
      have hB : (H ++ E).length = N + E.length := by simp [hg, hN]
      generalize hB0 : H ++ E = Bf at *
      generalize hn0 : N + E.length = nn at *
      have hnn : nn ≤ 18874400 := by omega
      have q1 := p65 ents[i].turned (Bf ++ (d ++ [32])) (by omega) (by omega) (by simp [hg]; omega)
      have eL : (Bf ++ (d ++ [32])).length = nn + d.length + 1 := by simp [hg]; omega
      rw [eL] at q1
      generalize digT ents[i].turned = z at *
      generalize sayV ents[i].val = u at *
      have g0 := room_ok (n := nn + d.length) (by omega)
      have m0 := max_ok' (n := nn + d.length) (by omega)
      have g1 := room_ok (n := nn + d.length + 1) (by omega)
      have m1 := max_ok' (n := nn + d.length + 1) (by omega)
      have g2 := room_ok (n := nn + d.length + 1 + z.length + 1) (by omega)
      have m2 := max_ok' (n := nn + d.length + 1 + z.length + 1) (by omega)
      have g3 := room_ok (n := nn + d.length + 1 + z.length + 1 + u.length + 1) (by omega)
      have m3 := max_ok' (n := nn + d.length + 1 + z.length + 1 + u.length + 1) (by omega)
      have g4 := room_ok (n := nn + d.length + 1 + z.length + 8) (by omega)
      have m4 := max_ok' (n := nn + d.length + 1 + z.length + 8) (by omega)
      have g5 := room_ok (n := nn + d.length + 1 + z.length + 8 + 1) (by omega)
      have m5 := max_ok' (n := nn + d.length + 1 + z.length + 8 + 1) (by omega)
      have g6 := room_ok (n := nn + d.length + 1 + z.length + 8 + 1 + u.length + 1) (by omega)
      have m6 := max_ok' (n := nn + d.length + 1 + z.length + 8 + 1 + u.length + 1) (by omega)
      have s0 := spare_no (a := nn + d.length + 1) (b := nn + (d.length + 1)) (by omega)
      have l0 := le_ok' (a := nn + d.length + 1) (b := nn + (d.length + 1)) (by omega)
      have s1 := spare_no (a := nn + d.length + 1 + z.length) (b := nn + (d.length + (z.length + 1))) (by omega)
      have l1 := le_ok' (a := nn + d.length + 1 + z.length) (b := nn + (d.length + (z.length + 1))) (by omega)
      have s2 := spare_no (a := nn + d.length + 1 + z.length + 1 + u.length) (b := nn + (d.length + (z.length + (u.length + 1) + 1))) (by omega)
      have l2 := le_ok' (a := nn + d.length + 1 + z.length + 1 + u.length) (b := nn + (d.length + (z.length + (u.length + 1) + 1))) (by omega)
      have s3 := spare_no (a := nn + d.length + 1 + z.length + 8) (b := nn + (d.length + (z.length + 1)) + 8) (by omega)
      have l3 := le_ok' (a := nn + d.length + 1 + z.length + 8) (b := nn + (d.length + (z.length + 1)) + 8) (by omega)
      have s4 := spare_no (a := nn + d.length + 1 + z.length + 8 + 1 + u.length) (b := nn + (d.length + (z.length + (u.length + 1 + 1 + 1 + 1 + 1 + 1 + 1 + 1 + 1) + 1))) (by omega)
      have l4 := le_ok' (a := nn + d.length + 1 + z.length + 8 + 1 + u.length) (b := nn + (d.length + (z.length + (u.length + 1 + 1 + 1 + 1 + 1 + 1 + 1 + 1 + 1) + 1))) (by omega)
      have k0 : List.take (nn) (Bf) = Bf := List.take_of_length_le (by first | omega | (simp [hg]; done) | (simp [hg]; omega))
      have k1 : List.take (nn + d.length) (Bf ++ d) = Bf ++ d := List.take_of_length_le (by first | omega | (simp [hg]; done) | (simp [hg]; omega))
      have k2 : List.take (nn + d.length + 1 + z.length) (Bf ++ (d ++ 32 :: z)) = Bf ++ (d ++ 32 :: z) := List.take_of_length_le (by first | omega | (simp [hg]; done) | (simp [hg]; omega))
      have k3 : List.take (nn + d.length + 1 + z.length + 1 + u.length) (Bf ++ (d ++ 32 :: (z ++ 32 :: u))) = Bf ++ (d ++ 32 :: (z ++ 32 :: u)) := List.take_of_length_le (by first | omega | (simp [hg]; done) | (simp [hg]; omega))
      have k4 : List.take (nn + d.length + 1 + z.length + 8) (rws (numP .u8) (Bf ++ (d ++ 32 :: z)) ++ [[.sc (.int .u8 32)], [.sc (.int .u8 116)], [.sc (.int .u8 97)], [.sc (.int .u8 105)], [.sc (.int .u8 110)], [.sc (.int .u8 116)], [.sc (.int .u8 101)], [.sc (.int .u8 100)]]) = rws (numP .u8) (Bf ++ (d ++ 32 :: z)) ++ [[.sc (.int .u8 32)], [.sc (.int .u8 116)], [.sc (.int .u8 97)], [.sc (.int .u8 105)], [.sc (.int .u8 110)], [.sc (.int .u8 116)], [.sc (.int .u8 101)], [.sc (.int .u8 100)]] := List.take_of_length_le (by first | omega | (simp [hg]; done) | (simp [hg]; omega))
      have k5 : List.take (nn + d.length + 1 + z.length + 8 + 1 + u.length) (Bf ++ (d ++ 32 :: (z ++ 32 :: 116 :: 97 :: 105 :: 110 :: 116 :: 101 :: 100 :: 32 :: u))) = Bf ++ (d ++ 32 :: (z ++ 32 :: 116 :: 97 :: 105 :: 110 :: 116 :: 101 :: 100 :: 32 :: u)) := List.take_of_length_le (by first | omega | (simp [hg]; done) | (simp [hg]; omega))
      cases htt : ents[i].taint
      · have q7 := q6 (Bf ++ (d ++ 32 :: (z ++ [32]))) false false false (by simp [hg]; omega)
        have eL2 : (Bf ++ (d ++ 32 :: (z ++ [32]))).length = nn + d.length + 1 + z.length + 1 := by simp [hg]; omega
        rw [eL2] at q7
        rw [htt] at e2
        simp [hg, hlt, hd0, hB, q1, q7, htt, g0, m0, g1, m1, g2, m2, g3, m3, g4, m4, g5, m5, g6, m6, s0, l0, s1, l1, s2, l2, s3, l3, s4, l4, k0, k1, k2, k3, k4, k5, hr, hg, hp7, hp12, hp15]
        try simp (disch := omega) only [wrap_id']
        refine (ih.out (i + 1) _ ?_ ?_ ?_).trans ?_
        · omega
        · omega
        · rw [e1, e2]; simp [hg, hw2, ← hB0, ← hn0, rws]; try omega
        · simp [hg]
      · have q7 := q6 (Bf ++ (d ++ 32 :: (z ++ [32, 116, 97, 105, 110, 116, 101, 100, 32]))) false false false (by simp [hg]; omega)
        have eL2 : (Bf ++ (d ++ 32 :: (z ++ [32, 116, 97, 105, 110, 116, 101, 100, 32]))).length = nn + d.length + 1 + z.length + 8 + 1 := by simp [hg]; omega
        have eR2 : nums .u8 (Bf ++ (d ++ 32 :: (z ++ [32, 116, 97, 105, 110, 116, 101, 100, 32]))) = rws (numP .u8) (Bf ++ (d ++ 32 :: z)) ++ [[.sc (.int .u8 32)], [.sc (.int .u8 116)], [.sc (.int .u8 97)], [.sc (.int .u8 105)], [.sc (.int .u8 110)], [.sc (.int .u8 116)], [.sc (.int .u8 101)], [.sc (.int .u8 100)], [.sc (.int .u8 32)]] := by simp [hg, rws]
        rw [eL2, eR2] at q7
        rw [htt] at e2
        simp [hg, hlt, hd0, hB, q1, q7, htt, hz2, g0, m0, g1, m1, g2, m2, g3, m3, g4, m4, g5, m5, g6, m6, s0, l0, s1, l1, s2, l2, s3, l3, s4, l4, k0, k1, k2, k3, k4, k5, hr, hg, hp7, hp12, hp15]
        try simp (disch := omega) only [wrap_id']
        refine (ih.out (i + 1) _ ?_ ?_ ?_).trans ?_
        · omega
        · omega
        · rw [e1, e2]; simp [hg, hw2, ← hB0, ← hn0, rws]; try omega
        · simp [hg]
    · have e : i = ents.length := by omega
      subst e
      simp [hg]
  · by_cases hp : pend = []
    · have hp' := hp
      subst hp
      simp only [rws_nil] at q0
      have g0 := room_ok (n := 7 + d.length + 1) (by omega)
      have m0 := max_ok' (n := 7 + d.length + 1) (by omega)
      have g1 := room_ok (n := 7 + d.length + 1 + 4) (by omega)
      have m1 := max_ok' (n := 7 + d.length + 1 + 4) (by omega)
      have g2 := room_ok (n := 7 + d.length + 1 + 4 + 1) (by omega)
      have m2 := max_ok' (n := 7 + d.length + 1 + 4 + 1) (by omega)
      have s0 := spare_no (a := 7 + d.length) (b := d.length + 1 + 1 + 1 + 1 + 1 + 1 + 1) (by omega)
      have l0 := le_ok' (a := 7 + d.length) (b := d.length + 1 + 1 + 1 + 1 + 1 + 1 + 1) (by omega)
      have s1 := spare_no (a := 7 + d.length + 1) (b := d.length + 1 + 1 + 1 + 1 + 1 + 1 + 1 + 1) (by omega)
      have l1 := le_ok' (a := 7 + d.length + 1) (b := d.length + 1 + 1 + 1 + 1 + 1 + 1 + 1 + 1) (by omega)
      have s2 := spare_no (a := 7 + d.length + 1 + 4) (b := d.length + 1 + 1 + 1 + 1 + 1 + 1 + 1 + 1 + 4) (by omega)
      have l2 := le_ok' (a := 7 + d.length + 1 + 4) (b := d.length + 1 + 1 + 1 + 1 + 1 + 1 + 1 + 1 + 4) (by omega)
      have k0 : List.take (7 + d.length) (115 :: 101 :: 114 :: 105 :: 97 :: 108 :: 32 :: d) = 115 :: 101 :: 114 :: 105 :: 97 :: 108 :: 32 :: d := List.take_of_length_le (by first | omega | (simp [hg]; done) | (simp [hg]; omega))
      have k1 : List.take (7 + d.length + 1) (115 :: 101 :: 114 :: 105 :: 97 :: 108 :: 32 :: (d ++ [10])) = 115 :: 101 :: 114 :: 105 :: 97 :: 108 :: 32 :: (d ++ [10]) := List.take_of_length_le (by first | omega | (simp [hg]; done) | (simp [hg]; omega))
      have k2 : List.take (7 + d.length + 1 + 4) (rws (numP .u8) (115 :: 101 :: 114 :: 105 :: 97 :: 108 :: 32 :: (d ++ [10])) ++ [[.sc (.int .u8 111)], [.sc (.int .u8 112)], [.sc (.int .u8 101)], [.sc (.int .u8 110)]]) = rws (numP .u8) (115 :: 101 :: 114 :: 105 :: 97 :: 108 :: 32 :: (d ++ [10])) ++ [[.sc (.int .u8 111)], [.sc (.int .u8 112)], [.sc (.int .u8 101)], [.sc (.int .u8 110)]] := List.take_of_length_le (by first | omega | (simp [hg]; done) | (simp [hg]; omega))
      simp [code, Tryz.f27, hr, hg, hp7, hp12, hp15, q0, q1, hz, g0, m0, g1, m1, g2, m2, s0, l0, s1, l1, s2, l2, k0, k1, k2]
      have eX : rws (numP .u8) (115 :: 101 :: 114 :: 105 :: 97 :: 108 :: 32 :: (d ++ [10])) ++ [[.sc (.int .u8 111)], [.sc (.int .u8 112)], [.sc (.int .u8 101)], [.sc (.int .u8 110)], [.sc (.int .u8 10)]] = nums .u8 (115 :: 101 :: 114 :: 105 :: 97 :: 108 :: 32 :: (d ++ [10] ++ [111, 112, 101, 110, 10])) := by simp [hg, rws]
      have hN : (115 :: 101 :: 114 :: 105 :: 97 :: 108 :: 32 :: (d ++ [10] ++ [111, 112, 101, 110, 10])).length = 7 + d.length + 1 + 4 + 1 := by simp [hg]; try omega
      have ht' : t = (115 :: 101 :: 114 :: 105 :: 97 :: 108 :: 32 :: (d ++ [10] ++ [111, 112, 101, 110, 10])) ++ entsT ents := by rw [ht]; simp [hg, hp']
      have hNl : 7 + d.length + 1 + 4 + 1 ≤ 1048800 := by omega
      try rw [eX]
      clear ht eX
      generalize 7 + d.length + 1 + 4 + 1 = N at *
      generalize 115 :: 101 :: 114 :: 105 :: 97 :: 108 :: 32 :: (d ++ [10] ++ [111, 112, 101, 110, 10]) = H at *
      refine (loop_to (s0 := ?s2) (fun i => ents.length - i) (fun i => [(3, .ref 18 0 (N + (entsT (ents.take i)).length)), (42, (.pv false (.sc (.int .i64 ((i : Nat))))))]) (fun i => [(16, .box [(.pv false (.sc (.int .i64 serial))), (.pv false (.sc (.bool true))), .pv false (.sl ([])), (.pv false (.sc (.int .i64 act))), .pv false (.sl (rws nP ents))]), (18, .row .own 5 1 (nums .u8 (H ++ entsT (ents.take i))))]) (fun i K => K [(3, .ref 18 0 (N + (entsT ents).length)), (42, (.pv false (.sc (.int .i64 ents.length))))] [(16, .box [(.pv false (.sc (.int .i64 serial))), (.pv false (.sc (.bool true))), .pv false (.sl ([])), (.pv false (.sc (.int .i64 act))), .pv false (.sl (rws nP ents))]), (18, .row .own 5 1 (nums .u8 (H ++ entsT ents)))]) (fun i => i ≤ ents.length) 0 ?hc2 ?h02 ?hs2 ?step2).trans ?r2
      case hc2 => simp; rfl
      case h02 => first | (simp; done) | (simp [*]; done) | exact ⟨by simp, ⟨rfl⟩⟩ | grind | (simp; omega)
      case hs2 => first | (simp; done) | (simp [*]; done)
      case r2 =>
        rw [ht']
        simp [hg, hN, hr, hg, hp7, hp12, hp15]
      intro k i hi ih
      simp [hg]
      (first | refine ifL_cases (fun h => ?_) (fun h => ?_) | refine gI_cases' (fun h => ?_) (fun h => ?_) | refine gI_cases (fun h => ?_) (fun h => ?_) | refine dI_cases' (fun h => ?_) (fun h => ?_) | refine dI_cases (fun h => ?_) (fun h => ?_)) <;> first | replace h := of_decide_eq_true h | replace h := of_decide_eq_false h | skip
      · have hlt : i < ents.length := h
        have hx := hall _ (List.getElem_mem hlt)
        obtain ⟨x1, x2, x3, x4⟩ := b3 _ (List.getElem_mem hlt)
        have hE := entsT_len (l := ents.take i) (fun x h => b3 x (List.mem_of_mem_take h))
        have hE2 : (ents.take i).length ≤ 16 := by simp [hg]; omega
        have e1 := entsT_take hlt
        have hw2 : IntKind.i64.wrap ((i : Int) + 1) = i + 1 := wrap_id' (by omega)
        have hz2 : (⟨#[32, 116, 97, 105, 110, 116, 101, 100]⟩ : ByteArray).size = 8 := rfl
        have hv5 : shV ents[i].val 5 = true ∧ ptV ents[i].val ≤ 40 := by simpa [valB] using x4
        have hu := say_len ents[i].val 5 hv5.1
        have q6 := fun a => pText ents[i].val (sh_say _ 5 hv5.1 hx.vl (by have := hx.vp; omega)) a
        have hgl := digT_len (n := ents[i].turned) (by omega) (by omega)
        obtain ⟨d, hd0⟩ : ∃ d, ents[i].addr = d := ⟨_, rfl⟩
        have e2 : entT ents[i] = d ++ 32 :: (digT ents[i].turned ++ ((if ents[i].taint then [32, 116, 97, 105, 110, 116, 101, 100] else []) ++ 32 :: (sayV ents[i].val ++ [10]))) := by rw [← hd0]; rfl
        rw [hd0] at x1
        generalize hEE : entsT (ents.take i) = E at *
        have hB : (H ++ E).length = N + E.length := by simp [hg, hN]
        generalize hB0 : H ++ E = Bf at *
        generalize hn0 : N + E.length = nn at *
        have hnn : nn ≤ 18874400 := by omega
        have q1 := p65 ents[i].turned (Bf ++ (d ++ [32])) (by omega) (by omega) (by simp [hg]; omega)
        have eL : (Bf ++ (d ++ [32])).length = nn + d.length + 1 := by simp [hg]; omega
        rw [eL] at q1
        generalize digT ents[i].turned = z at *
        generalize sayV ents[i].val = u at *
        have g0 := room_ok (n := nn + d.length) (by omega)
        have m0 := max_ok' (n := nn + d.length) (by omega)
        have g1 := room_ok (n := nn + d.length + 1) (by omega)
        have m1 := max_ok' (n := nn + d.length + 1) (by omega)
        have g2 := room_ok (n := nn + d.length + 1 + z.length + 1) (by omega)
        have m2 := max_ok' (n := nn + d.length + 1 + z.length + 1) (by omega)
        have g3 := room_ok (n := nn + d.length + 1 + z.length + 1 + u.length + 1) (by omega)
        have m3 := max_ok' (n := nn + d.length + 1 + z.length + 1 + u.length + 1) (by omega)
        have g4 := room_ok (n := nn + d.length + 1 + z.length + 8) (by omega)
        have m4 := max_ok' (n := nn + d.length + 1 + z.length + 8) (by omega)
        have g5 := room_ok (n := nn + d.length + 1 + z.length + 8 + 1) (by omega)
        have m5 := max_ok' (n := nn + d.length + 1 + z.length + 8 + 1) (by omega)
        have g6 := room_ok (n := nn + d.length + 1 + z.length + 8 + 1 + u.length + 1) (by omega)
        have m6 := max_ok' (n := nn + d.length + 1 + z.length + 8 + 1 + u.length + 1) (by omega)
        have s0 := spare_no (a := nn + d.length + 1) (b := nn + (d.length + 1)) (by omega)
        have l0 := le_ok' (a := nn + d.length + 1) (b := nn + (d.length + 1)) (by omega)
        have s1 := spare_no (a := nn + d.length + 1 + z.length) (b := nn + (d.length + (z.length + 1))) (by omega)
        have l1 := le_ok' (a := nn + d.length + 1 + z.length) (b := nn + (d.length + (z.length + 1))) (by omega)
        have s2 := spare_no (a := nn + d.length + 1 + z.length + 1 + u.length) (b := nn + (d.length + (z.length + (u.length + 1) + 1))) (by omega)
        have l2 := le_ok' (a := nn + d.length + 1 + z.length + 1 + u.length) (b := nn + (d.length + (z.length + (u.length + 1) + 1))) (by omega)
        have s3 := spare_no (a := nn + d.length + 1 + z.length + 8) (b := nn + (d.length + (z.length + 1)) + 8) (by omega)
        have l3 := le_ok' (a := nn + d.length + 1 + z.length + 8) (b := nn + (d.length + (z.length + 1)) + 8) (by omega)
        have s4 := spare_no (a := nn + d.length + 1 + z.length + 8 + 1 + u.length) (b := nn + (d.length + (z.length + (u.length + 1 + 1 + 1 + 1 + 1 + 1 + 1 + 1 + 1) + 1))) (by omega)
        have l4 := le_ok' (a := nn + d.length + 1 + z.length + 8 + 1 + u.length) (b := nn + (d.length + (z.length + (u.length + 1 + 1 + 1 + 1 + 1 + 1 + 1 + 1 + 1) + 1))) (by omega)
        have k0 : List.take (nn) (Bf) = Bf := List.take_of_length_le (by first | omega | (simp [hg]; done) | (simp [hg]; omega))
        have k1 : List.take (nn + d.length) (Bf ++ d) = Bf ++ d := List.take_of_length_le (by first | omega | (simp [hg]; done) | (simp [hg]; omega))
        have k2 : List.take (nn + d.length + 1 + z.length) (Bf ++ (d ++ 32 :: z)) = Bf ++ (d ++ 32 :: z) := List.take_of_length_le (by first | omega | (simp [hg]; done) | (simp [hg]; omega))
        have k3 : List.take (nn + d.length + 1 + z.length + 1 + u.length) (Bf ++ (d ++ 32 :: (z ++ 32 :: u))) = Bf ++ (d ++ 32 :: (z ++ 32 :: u)) := List.take_of_length_le (by first | omega | (simp [hg]; done) | (simp [hg]; omega))
        have k4 : List.take (nn + d.length + 1 + z.length + 8) (rws (numP .u8) (Bf ++ (d ++ 32 :: z)) ++ [[.sc (.int .u8 32)], [.sc (.int .u8 116)], [.sc (.int .u8 97)], [.sc (.int .u8 105)], [.sc (.int .u8 110)], [.sc (.int .u8 116)], [.sc (.int .u8 101)], [.sc (.int .u8 100)]]) = rws (numP .u8) (Bf ++ (d ++ 32 :: z)) ++ [[.sc (.int .u8 32)], [.sc (.int .u8 116)], [.sc (.int .u8 97)], [.sc (.int .u8 105)], [.sc (.int .u8 110)], [.sc (.int .u8 116)], [.sc (.int .u8 101)], [.sc (.int .u8 100)]] := List.take_of_length_le (by first | omega | (simp [hg]; done) | (simp [hg]; omega))
        have k5 : List.take (nn + d.length + 1 + z.length + 8 + 1 + u.length) (Bf ++ (d ++ 32 :: (z ++ 32 :: 116 :: 97 :: 105 :: 110 :: 116 :: 101 :: 100 :: 32 :: u))) = Bf ++ (d ++ 32 :: (z ++ 32 :: 116 :: 97 :: 105 :: 110 :: 116 :: 101 :: 100 :: 32 :: u)) := List.take_of_length_le (by first | omega | (simp [hg]; done) | (simp [hg]; omega))
        cases htt : ents[i].taint
        · have q7 := q6 (Bf ++ (d ++ 32 :: (z ++ [32]))) false false false (by simp [hg]; omega)
          have eL2 : (Bf ++ (d ++ 32 :: (z ++ [32]))).length = nn + d.length + 1 + z.length + 1 := by simp [hg]; omega
          rw [eL2] at q7
          rw [htt] at e2
          simp [hg, hlt, hd0, hB, q1, q7, htt, g0, m0, g1, m1, g2, m2, g3, m3, g4, m4, g5, m5, g6, m6, s0, l0, s1, l1, s2, l2, s3, l3, s4, l4, k0, k1, k2, k3, k4, k5, hr, hg, hp7, hp12, hp15]
          try simp (disch := omega) only [wrap_id']
          refine (ih.out (i + 1) _ ?_ ?_ ?_).trans ?_
          · omega
          · omega
          · rw [e1, e2]; simp [hg, hw2, ← hB0, ← hn0, rws]; try omega
          · simp [hg]
        · have q7 := q6 (Bf ++ (d ++ 32 :: (z ++ [32, 116, 97, 105, 110, 116, 101, 100, 32]))) false false false (by simp [hg]; omega)
          have eL2 : (Bf ++ (d ++ 32 :: (z ++ [32, 116, 97, 105, 110, 116, 101, 100, 32]))).length = nn + d.length + 1 + z.length + 8 + 1 := by simp [hg]; omega
          have eR2 : nums .u8 (Bf ++ (d ++ 32 :: (z ++ [32, 116, 97, 105, 110, 116, 101, 100, 32]))) = rws (numP .u8) (Bf ++ (d ++ 32 :: z)) ++ [[.sc (.int .u8 32)], [.sc (.int .u8 116)], [.sc (.int .u8 97)], [.sc (.int .u8 105)], [.sc (.int .u8 110)], [.sc (.int .u8 116)], [.sc (.int .u8 101)], [.sc (.int .u8 100)], [.sc (.int .u8 32)]] := by simp [hg, rws]
          rw [eL2, eR2] at q7
          rw [htt] at e2
          simp [hg, hlt, hd0, hB, q1, q7, htt, hz2, g0, m0, g1, m1, g2, m2, g3, m3, g4, m4, g5, m5, g6, m6, s0, l0, s1, l1, s2, l2, s3, l3, s4, l4, k0, k1, k2, k3, k4, k5, hr, hg, hp7, hp12, hp15]
          try simp (disch := omega) only [wrap_id']
          refine (ih.out (i + 1) _ ?_ ?_ ?_).trans ?_
          · omega
          · omega
          · rw [e1, e2]; simp [hg, hw2, ← hB0, ← hn0, rws]; try omega
          · simp [hg]
      · have e : i = ents.length := by omega
        subst e
        simp [hg]
    · have hp' := hp
      have hp1 : 0 < pend.length := List.length_pos_iff.2 hp
      have q3 := p63 act (b4 hp).2.1 (b4 hp).2.2
      obtain ⟨w1, w2, w3⟩ := actT_ok act
      have q4 := bytes_back w1
      have q5 : (strOfNums (actT act)).size = (actT act).length := strOfNums_size _
      generalize actT act = a at *
      have g0 := room_ok (n := 7 + d.length + 1) (by omega)
      have m0 := max_ok' (n := 7 + d.length + 1) (by omega)
      have g1 := room_ok (n := 7 + d.length + 1 + 4) (by omega)
      have m1 := max_ok' (n := 7 + d.length + 1 + 4) (by omega)
      have g2 := room_ok (n := 7 + d.length + 1 + 4 + 1) (by omega)
      have m2 := max_ok' (n := 7 + d.length + 1 + 4 + 1) (by omega)
      have g3 := room_ok (n := 7 + d.length + 1 + 4 + 1 + a.length) (by omega)
      have m3 := max_ok' (n := 7 + d.length + 1 + 4 + 1 + a.length) (by omega)
      have g4 := room_ok (n := 7 + d.length + 1 + 4 + 1 + a.length + 1) (by omega)
      have m4 := max_ok' (n := 7 + d.length + 1 + 4 + 1 + a.length + 1) (by omega)
      have g5 := room_ok (n := 7 + d.length + 1 + 4 + 1 + a.length + 1 + pend.length) (by omega)
      have m5 := max_ok' (n := 7 + d.length + 1 + 4 + 1 + a.length + 1 + pend.length) (by omega)
      have g6 := room_ok (n := 7 + d.length + 1 + 4 + 1 + a.length + 1 + pend.length + 1) (by omega)
      have m6 := max_ok' (n := 7 + d.length + 1 + 4 + 1 + a.length + 1 + pend.length + 1) (by omega)
      have s0 := spare_no (a := 7 + d.length) (b := d.length + 1 + 1 + 1 + 1 + 1 + 1 + 1) (by omega)
      have l0 := le_ok' (a := 7 + d.length) (b := d.length + 1 + 1 + 1 + 1 + 1 + 1 + 1) (by omega)
      have s1 := spare_no (a := 7 + d.length + 1) (b := d.length + 1 + 1 + 1 + 1 + 1 + 1 + 1 + 1) (by omega)
      have l1 := le_ok' (a := 7 + d.length + 1) (b := d.length + 1 + 1 + 1 + 1 + 1 + 1 + 1 + 1) (by omega)
      have s2 := spare_no (a := 7 + d.length + 1 + 4) (b := d.length + 1 + 1 + 1 + 1 + 1 + 1 + 1 + 1 + 4) (by omega)
      have l2 := le_ok' (a := 7 + d.length + 1 + 4) (b := d.length + 1 + 1 + 1 + 1 + 1 + 1 + 1 + 1 + 4) (by omega)
      have s3 := spare_no (a := 7 + d.length + 1 + 4 + 1) (b := d.length + 1 + 1 + 1 + 1 + 1 + 1 + 1 + 1 + 5) (by omega)
      have l3 := le_ok' (a := 7 + d.length + 1 + 4 + 1) (b := d.length + 1 + 1 + 1 + 1 + 1 + 1 + 1 + 1 + 5) (by omega)
      have s4 := spare_no (a := 7 + d.length + 1 + 4 + 1 + a.length) (b := d.length + 1 + 1 + 1 + 1 + 1 + 1 + 1 + 1 + (a.length + 1 + 1 + 1 + 1 + 1)) (by omega)
      have l4 := le_ok' (a := 7 + d.length + 1 + 4 + 1 + a.length) (b := d.length + 1 + 1 + 1 + 1 + 1 + 1 + 1 + 1 + (a.length + 1 + 1 + 1 + 1 + 1)) (by omega)
      have s5 := spare_no (a := 7 + d.length + 1 + 4 + 1 + a.length + 1) (b := d.length + 1 + 1 + 1 + 1 + 1 + 1 + 1 + 1 + (a.length + 1 + 1 + 1 + 1 + 1 + 1)) (by omega)
      have l5 := le_ok' (a := 7 + d.length + 1 + 4 + 1 + a.length + 1) (b := d.length + 1 + 1 + 1 + 1 + 1 + 1 + 1 + 1 + (a.length + 1 + 1 + 1 + 1 + 1 + 1)) (by omega)
      have s6 := spare_no (a := 7 + d.length + 1 + 4 + 1 + a.length + 1 + pend.length) (b := d.length + 1 + 1 + 1 + 1 + 1 + 1 + 1 + 1 + (a.length + (pend.length + 1) + 1 + 1 + 1 + 1 + 1)) (by omega)
      have l6 := le_ok' (a := 7 + d.length + 1 + 4 + 1 + a.length + 1 + pend.length) (b := d.length + 1 + 1 + 1 + 1 + 1 + 1 + 1 + 1 + (a.length + (pend.length + 1) + 1 + 1 + 1 + 1 + 1)) (by omega)
      have k0 : List.take (7 + d.length) (115 :: 101 :: 114 :: 105 :: 97 :: 108 :: 32 :: d) = 115 :: 101 :: 114 :: 105 :: 97 :: 108 :: 32 :: d := List.take_of_length_le (by first | omega | (simp [hg]; done) | (simp [hg]; omega))
      have k1 : List.take (7 + d.length + 1) (115 :: 101 :: 114 :: 105 :: 97 :: 108 :: 32 :: (d ++ [10])) = 115 :: 101 :: 114 :: 105 :: 97 :: 108 :: 32 :: (d ++ [10]) := List.take_of_length_le (by first | omega | (simp [hg]; done) | (simp [hg]; omega))
      have k2 : List.take (7 + d.length + 1 + 4) (rws (numP .u8) (115 :: 101 :: 114 :: 105 :: 97 :: 108 :: 32 :: (d ++ [10])) ++ [[.sc (.int .u8 111)], [.sc (.int .u8 112)], [.sc (.int .u8 101)], [.sc (.int .u8 110)]]) = rws (numP .u8) (115 :: 101 :: 114 :: 105 :: 97 :: 108 :: 32 :: (d ++ [10])) ++ [[.sc (.int .u8 111)], [.sc (.int .u8 112)], [.sc (.int .u8 101)], [.sc (.int .u8 110)]] := List.take_of_length_le (by first | omega | (simp [hg]; done) | (simp [hg]; omega))
      have k3 : List.take (7 + d.length + 1 + 4 + 1) (rws (numP .u8) (115 :: 101 :: 114 :: 105 :: 97 :: 108 :: 32 :: (d ++ [10])) ++ [[.sc (.int .u8 111)], [.sc (.int .u8 112)], [.sc (.int .u8 101)], [.sc (.int .u8 110)], [.sc (.int .u8 32)]]) = rws (numP .u8) (115 :: 101 :: 114 :: 105 :: 97 :: 108 :: 32 :: (d ++ [10])) ++ [[.sc (.int .u8 111)], [.sc (.int .u8 112)], [.sc (.int .u8 101)], [.sc (.int .u8 110)], [.sc (.int .u8 32)]] := List.take_of_length_le (by first | omega | (simp [hg]; done) | (simp [hg]; omega))
      have k4 : List.take (7 + d.length + 1 + 4 + 1 + a.length) (rws (numP .u8) (115 :: 101 :: 114 :: 105 :: 97 :: 108 :: 32 :: (d ++ [10])) ++ [.sc (.int .u8 111)] :: [.sc (.int .u8 112)] :: [.sc (.int .u8 101)] :: [.sc (.int .u8 110)] :: [.sc (.int .u8 32)] :: nums .u8 a) = rws (numP .u8) (115 :: 101 :: 114 :: 105 :: 97 :: 108 :: 32 :: (d ++ [10])) ++ [.sc (.int .u8 111)] :: [.sc (.int .u8 112)] :: [.sc (.int .u8 101)] :: [.sc (.int .u8 110)] :: [.sc (.int .u8 32)] :: nums .u8 a := List.take_of_length_le (by first | omega | (simp [hg]; done) | (simp [hg]; omega))
      have k5 : List.take (7 + d.length + 1 + 4 + 1 + a.length + 1) (rws (numP .u8) (115 :: 101 :: 114 :: 105 :: 97 :: 108 :: 32 :: (d ++ [10])) ++ [.sc (.int .u8 111)] :: [.sc (.int .u8 112)] :: [.sc (.int .u8 101)] :: [.sc (.int .u8 110)] :: [.sc (.int .u8 32)] :: nums .u8 (a ++ [32])) = rws (numP .u8) (115 :: 101 :: 114 :: 105 :: 97 :: 108 :: 32 :: (d ++ [10])) ++ [.sc (.int .u8 111)] :: [.sc (.int .u8 112)] :: [.sc (.int .u8 101)] :: [.sc (.int .u8 110)] :: [.sc (.int .u8 32)] :: nums .u8 (a ++ [32]) := List.take_of_length_le (by first | omega | (simp [hg]; done) | (simp [hg]; omega))
      have k6 : List.take (7 + d.length + 1 + 4 + 1 + a.length + 1 + pend.length) (rws (numP .u8) (115 :: 101 :: 114 :: 105 :: 97 :: 108 :: 32 :: (d ++ [10])) ++ [.sc (.int .u8 111)] :: [.sc (.int .u8 112)] :: [.sc (.int .u8 101)] :: [.sc (.int .u8 110)] :: [.sc (.int .u8 32)] :: nums .u8 (a ++ 32 :: pend)) = rws (numP .u8) (115 :: 101 :: 114 :: 105 :: 97 :: 108 :: 32 :: (d ++ [10])) ++ [.sc (.int .u8 111)] :: [.sc (.int .u8 112)] :: [.sc (.int .u8 101)] :: [.sc (.int .u8 110)] :: [.sc (.int .u8 32)] :: nums .u8 (a ++ 32 :: pend) := List.take_of_length_le (by first | omega | (simp [hg]; done) | (simp [hg]; omega))
      simp [code, Tryz.f27, hr, hg, hp7, hp12, hp15, q0, q1, hz, hp, hp1, q3, q4, q5, g0, m0, g1, m1, g2, m2, g3, m3, g4, m4, g5, m5, g6, m6, s0, l0, s1, l1, s2, l2, s3, l3, s4, l4, s5, l5, s6, l6, k0, k1, k2, k3, k4, k5, k6]
      have eX : rws (numP .u8) (115 :: 101 :: 114 :: 105 :: 97 :: 108 :: 32 :: (d ++ [10])) ++ [.sc (.int .u8 111)] :: [.sc (.int .u8 112)] :: [.sc (.int .u8 101)] :: [.sc (.int .u8 110)] :: [.sc (.int .u8 32)] :: nums .u8 (a ++ 32 :: (pend ++ [10])) = nums .u8 (115 :: 101 :: 114 :: 105 :: 97 :: 108 :: 32 :: (d ++ [10] ++ [111, 112, 101, 110, 32] ++ (a ++ 32 :: (pend ++ [10])))) := by simp [hg, rws]
      have hN : (115 :: 101 :: 114 :: 105 :: 97 :: 108 :: 32 :: (d ++ [10] ++ [111, 112, 101, 110, 32] ++ (a ++ 32 :: (pend ++ [10])))).length = 7 + d.length + 1 + 4 + 1 + a.length + 1 + pend.length + 1 := by simp [hg]; try omega
      have ht' : t = (115 :: 101 :: 114 :: 105 :: 97 :: 108 :: 32 :: (d ++ [10] ++ [111, 112, 101, 110, 32] ++ (a ++ 32 :: (pend ++ [10])))) ++ entsT ents := by rw [ht]; simp [hg, hp']
      have hNl : 7 + d.length + 1 + 4 + 1 + a.length + 1 + pend.length + 1 ≤ 1048800 := by omega
      try rw [eX]
      clear ht eX
      generalize 7 + d.length + 1 + 4 + 1 + a.length + 1 + pend.length + 1 = N at *
      generalize 115 :: 101 :: 114 :: 105 :: 97 :: 108 :: 32 :: (d ++ [10] ++ [111, 112, 101, 110, 32] ++ (a ++ 32 :: (pend ++ [10]))) = H at *
      refine (loop_to (s0 := ?s3) (fun i => ents.length - i) (fun i => [(3, .ref 18 0 (N + (entsT (ents.take i)).length)), (42, (.pv false (.sc (.int .i64 ((i : Nat))))))]) (fun i => [(16, .box [(.pv false (.sc (.int .i64 serial))), (.pv false (.sc (.bool true))), .pv false (.sl (nums .u8 pend)), (.pv false (.sc (.int .i64 act))), .pv false (.sl (rws nP ents))]), (18, .row .own 5 1 (nums .u8 (H ++ entsT (ents.take i))))]) (fun i K => K [(3, .ref 18 0 (N + (entsT ents).length)), (42, (.pv false (.sc (.int .i64 ents.length))))] [(16, .box [(.pv false (.sc (.int .i64 serial))), (.pv false (.sc (.bool true))), .pv false (.sl (nums .u8 pend)), (.pv false (.sc (.int .i64 act))), .pv false (.sl (rws nP ents))]), (18, .row .own 5 1 (nums .u8 (H ++ entsT ents)))]) (fun i => i ≤ ents.length) 0 ?hc3 ?h03 ?hs3 ?step3).trans ?r3
      case hc3 => simp; rfl
      case h03 => first | (simp; done) | (simp [*]; done) | exact ⟨by simp, ⟨rfl⟩⟩ | grind | (simp; omega)
      case hs3 => first | (simp; done) | (simp [*]; done)
      case r3 =>
        rw [ht']
        simp [hg, hN, hr, hg, hp7, hp12, hp15]
      intro k i hi ih
      simp [hg]
      (first | refine ifL_cases (fun h => ?_) (fun h => ?_) | refine gI_cases' (fun h => ?_) (fun h => ?_) | refine gI_cases (fun h => ?_) (fun h => ?_) | refine dI_cases' (fun h => ?_) (fun h => ?_) | refine dI_cases (fun h => ?_) (fun h => ?_)) <;> first | replace h := of_decide_eq_true h | replace h := of_decide_eq_false h | skip
      · have hlt : i < ents.length := h
        have hx := hall _ (List.getElem_mem hlt)
        obtain ⟨x1, x2, x3, x4⟩ := b3 _ (List.getElem_mem hlt)
        have hE := entsT_len (l := ents.take i) (fun x h => b3 x (List.mem_of_mem_take h))
        have hE2 : (ents.take i).length ≤ 16 := by simp [hg]; omega
        have e1 := entsT_take hlt
        have hw2 : IntKind.i64.wrap ((i : Int) + 1) = i + 1 := wrap_id' (by omega)
        have hz2 : (⟨#[32, 116, 97, 105, 110, 116, 101, 100]⟩ : ByteArray).size = 8 := rfl
        have hv5 : shV ents[i].val 5 = true ∧ ptV ents[i].val ≤ 40 := by simpa [valB] using x4
        have hu := say_len ents[i].val 5 hv5.1
        have q6 := fun a => pText ents[i].val (sh_say _ 5 hv5.1 hx.vl (by have := hx.vp; omega)) a
        have hgl := digT_len (n := ents[i].turned) (by omega) (by omega)
        obtain ⟨d, hd0⟩ : ∃ d, ents[i].addr = d := ⟨_, rfl⟩
        have e2 : entT ents[i] = d ++ 32 :: (digT ents[i].turned ++ ((if ents[i].taint then [32, 116, 97, 105, 110, 116, 101, 100] else []) ++ 32 :: (sayV ents[i].val ++ [10]))) := by rw [← hd0]; rfl
        rw [hd0] at x1
        generalize hEE : entsT (ents.take i) = E at *
        have hB : (H ++ E).length = N + E.length := by simp [hg, hN]
        generalize hB0 : H ++ E = Bf at *
        generalize hn0 : N + E.length = nn at *
        have hnn : nn ≤ 18874400 := by omega
        have q1 := p65 ents[i].turned (Bf ++ (d ++ [32])) (by omega) (by omega) (by simp [hg]; omega)
        have eL : (Bf ++ (d ++ [32])).length = nn + d.length + 1 := by simp [hg]; omega
        rw [eL] at q1
        generalize digT ents[i].turned = z at *
        generalize sayV ents[i].val = u at *
        have g0 := room_ok (n := nn + d.length) (by omega)
        have m0 := max_ok' (n := nn + d.length) (by omega)
        have g1 := room_ok (n := nn + d.length + 1) (by omega)
        have m1 := max_ok' (n := nn + d.length + 1) (by omega)
        have g2 := room_ok (n := nn + d.length + 1 + z.length + 1) (by omega)
        have m2 := max_ok' (n := nn + d.length + 1 + z.length + 1) (by omega)
        have g3 := room_ok (n := nn + d.length + 1 + z.length + 1 + u.length + 1) (by omega)
        have m3 := max_ok' (n := nn + d.length + 1 + z.length + 1 + u.length + 1) (by omega)
        have g4 := room_ok (n := nn + d.length + 1 + z.length + 8) (by omega)
        have m4 := max_ok' (n := nn + d.length + 1 + z.length + 8) (by omega)
        have g5 := room_ok (n := nn + d.length + 1 + z.length + 8 + 1) (by omega)
        have m5 := max_ok' (n := nn + d.length + 1 + z.length + 8 + 1) (by omega)
        have g6 := room_ok (n := nn + d.length + 1 + z.length + 8 + 1 + u.length + 1) (by omega)
        have m6 := max_ok' (n := nn + d.length + 1 + z.length + 8 + 1 + u.length + 1) (by omega)
        have s0 := spare_no (a := nn + d.length + 1) (b := nn + (d.length + 1)) (by omega)
        have l0 := le_ok' (a := nn + d.length + 1) (b := nn + (d.length + 1)) (by omega)
        have s1 := spare_no (a := nn + d.length + 1 + z.length) (b := nn + (d.length + (z.length + 1))) (by omega)
        have l1 := le_ok' (a := nn + d.length + 1 + z.length) (b := nn + (d.length + (z.length + 1))) (by omega)
        have s2 := spare_no (a := nn + d.length + 1 + z.length + 1 + u.length) (b := nn + (d.length + (z.length + (u.length + 1) + 1))) (by omega)
        have l2 := le_ok' (a := nn + d.length + 1 + z.length + 1 + u.length) (b := nn + (d.length + (z.length + (u.length + 1) + 1))) (by omega)
        have s3 := spare_no (a := nn + d.length + 1 + z.length + 8) (b := nn + (d.length + (z.length + 1)) + 8) (by omega)
        have l3 := le_ok' (a := nn + d.length + 1 + z.length + 8) (b := nn + (d.length + (z.length + 1)) + 8) (by omega)
        have s4 := spare_no (a := nn + d.length + 1 + z.length + 8 + 1 + u.length) (b := nn + (d.length + (z.length + (u.length + 1 + 1 + 1 + 1 + 1 + 1 + 1 + 1 + 1) + 1))) (by omega)
        have l4 := le_ok' (a := nn + d.length + 1 + z.length + 8 + 1 + u.length) (b := nn + (d.length + (z.length + (u.length + 1 + 1 + 1 + 1 + 1 + 1 + 1 + 1 + 1) + 1))) (by omega)
        have k0 : List.take (nn) (Bf) = Bf := List.take_of_length_le (by first | omega | (simp [hg]; done) | (simp [hg]; omega))
        have k1 : List.take (nn + d.length) (Bf ++ d) = Bf ++ d := List.take_of_length_le (by first | omega | (simp [hg]; done) | (simp [hg]; omega))
        have k2 : List.take (nn + d.length + 1 + z.length) (Bf ++ (d ++ 32 :: z)) = Bf ++ (d ++ 32 :: z) := List.take_of_length_le (by first | omega | (simp [hg]; done) | (simp [hg]; omega))
        have k3 : List.take (nn + d.length + 1 + z.length + 1 + u.length) (Bf ++ (d ++ 32 :: (z ++ 32 :: u))) = Bf ++ (d ++ 32 :: (z ++ 32 :: u)) := List.take_of_length_le (by first | omega | (simp [hg]; done) | (simp [hg]; omega))
        have k4 : List.take (nn + d.length + 1 + z.length + 8) (rws (numP .u8) (Bf ++ (d ++ 32 :: z)) ++ [[.sc (.int .u8 32)], [.sc (.int .u8 116)], [.sc (.int .u8 97)], [.sc (.int .u8 105)], [.sc (.int .u8 110)], [.sc (.int .u8 116)], [.sc (.int .u8 101)], [.sc (.int .u8 100)]]) = rws (numP .u8) (Bf ++ (d ++ 32 :: z)) ++ [[.sc (.int .u8 32)], [.sc (.int .u8 116)], [.sc (.int .u8 97)], [.sc (.int .u8 105)], [.sc (.int .u8 110)], [.sc (.int .u8 116)], [.sc (.int .u8 101)], [.sc (.int .u8 100)]] := List.take_of_length_le (by first | omega | (simp [hg]; done) | (simp [hg]; omega))
        have k5 : List.take (nn + d.length + 1 + z.length + 8 + 1 + u.length) (Bf ++ (d ++ 32 :: (z ++ 32 :: 116 :: 97 :: 105 :: 110 :: 116 :: 101 :: 100 :: 32 :: u))) = Bf ++ (d ++ 32 :: (z ++ 32 :: 116 :: 97 :: 105 :: 110 :: 116 :: 101 :: 100 :: 32 :: u)) := List.take_of_length_le (by first | omega | (simp [hg]; done) | (simp [hg]; omega))
        cases htt : ents[i].taint
        · have q7 := q6 (Bf ++ (d ++ 32 :: (z ++ [32]))) false false false (by simp [hg]; omega)
          have eL2 : (Bf ++ (d ++ 32 :: (z ++ [32]))).length = nn + d.length + 1 + z.length + 1 := by simp [hg]; omega
          rw [eL2] at q7
          rw [htt] at e2
          simp [hg, hlt, hd0, hB, q1, q7, htt, g0, m0, g1, m1, g2, m2, g3, m3, g4, m4, g5, m5, g6, m6, s0, l0, s1, l1, s2, l2, s3, l3, s4, l4, k0, k1, k2, k3, k4, k5, hr, hg, hp7, hp12, hp15]
          try simp (disch := omega) only [wrap_id']
          refine (ih.out (i + 1) _ ?_ ?_ ?_).trans ?_
          · omega
          · omega
          · rw [e1, e2]; simp [hg, hw2, ← hB0, ← hn0, rws]; try omega
          · simp [hg]
        · have q7 := q6 (Bf ++ (d ++ 32 :: (z ++ [32, 116, 97, 105, 110, 116, 101, 100, 32]))) false false false (by simp [hg]; omega)
          have eL2 : (Bf ++ (d ++ 32 :: (z ++ [32, 116, 97, 105, 110, 116, 101, 100, 32]))).length = nn + d.length + 1 + z.length + 8 + 1 := by simp [hg]; omega
          have eR2 : nums .u8 (Bf ++ (d ++ 32 :: (z ++ [32, 116, 97, 105, 110, 116, 101, 100, 32]))) = rws (numP .u8) (Bf ++ (d ++ 32 :: z)) ++ [[.sc (.int .u8 32)], [.sc (.int .u8 116)], [.sc (.int .u8 97)], [.sc (.int .u8 105)], [.sc (.int .u8 110)], [.sc (.int .u8 116)], [.sc (.int .u8 101)], [.sc (.int .u8 100)], [.sc (.int .u8 32)]] := by simp [hg, rws]
          rw [eL2, eR2] at q7
          rw [htt] at e2
          simp [hg, hlt, hd0, hB, q1, q7, htt, hz2, g0, m0, g1, m1, g2, m2, g3, m3, g4, m4, g5, m5, g6, m6, s0, l0, s1, l1, s2, l2, s3, l3, s4, l4, k0, k1, k2, k3, k4, k5, hr, hg, hp7, hp12, hp15]
          try simp (disch := omega) only [wrap_id']
          refine (ih.out (i + 1) _ ?_ ?_ ?_).trans ?_
          · omega
          · omega
          · rw [e1, e2]; simp [hg, hw2, ← hB0, ← hn0, rws]; try omega
          · simp [hg]
      · have e : i = ents.length := by omega
        subst e
        simp [hg]
theorem p27 (serial : Int) (opn : Bool) (pend : List Int) (act : Int) (ents : List En) (hs : SOk ⟨serial, opn, pend, act, ents⟩) : phi C0 (lim C0) 27 [.ag [(.pv false (.sc (.int .i64 serial))), (.pv false (.sc (.bool opn))), .pv false (.sl (nums .u8 pend)), (.pv false (.sc (.int .i64 act))), .pv false (.sl (rws nP ents))]] [] = some (.ref 16 0 (if stB ⟨serial, opn, pend, act, ents⟩ then stT ⟨serial, opn, pend, act, ents⟩ else []).length, [(16, .row .own 5 1 (nums .u8 (if stB ⟨serial, opn, pend, act, ents⟩ then stT ⟨serial, opn, pend, act, ents⟩ else [])))]) := call0 Tryz.func27 (by kernel_rfl) (e27 Tryz.f27 Tryz.results27 gl27 serial opn pend act ents hs)
end Go.Proofs.YtgkhojgmpojodaaGreatDoor
