/- Texts of states, by the reference. -/
import Derived.Test.YtgkhojgmpojodaaGreatDoorW14
import Derived.Test.YtgkhojgmpojodaaGreatDoorW13
namespace Go.Proofs.YtgkhojgmpojodaaGreatDoor
open Go Go.Pm Go.Proofs
set_option linter.unusedVariables false
set_option linter.unusedSimpArgs false
set_option maxRecDepth 100000 in
set_option maxHeartbeats 4000000 in
theorem e86 (fn : Func) (hr : fn.results = #[.tmp 4]) (x : En) (acc : List Int) (hx : NOk x) (he : eB x) (ha : acc.length ≤ 18874400) : lim C0 86 fn [.c (code Tryz.f86)] ⟨number [.ref 0 0 acc.length, .ag [.pv false (.sl (nums .u8 x.addr)), (.pv false (.sc (.int .i64 x.val.kind))), (.pv false (.sc (.int .i64 x.val.n))), .pv false (.sl (nums .u8 x.val.s)), .pv false (.sl (rws byP x.val.k)), .pv false (.sl (rws vP x.val.l)), .pv false (.sl (rws byP x.deps)), (.pv false (.sc (.bool x.taint))), (.pv false (.sc (.int .i64 x.turned)))]] 0, [(0, .row .io 5 1 (nums .u8 acc))]⟩ = some (.ref 16 0 (acc.length + (entT x).length), [(16, .row .io 5 1 (nums .u8 (acc ++ entT x)))]) := by
  have hp1 := plan86_1
  simp [opsOf, code, Tryz.f86] at hp1
  have hp4 := plan86_4
  simp [opsOf, code, Tryz.f86] at hp4
  obtain ⟨x1, x2, x3, x4⟩ := he
  have hv5 : shV x.val 5 = true ∧ ptV x.val ≤ 40 := by simpa [valB] using x4
  have hu := say_len x.val 5 hv5.1
  have q6 := pSay x.val (sh_say _ 5 hv5.1 hx.vl (by have := hx.vp; omega))
  have q1 := pDig x.turned (by omega) (by omega)
  have hgl := digT_len (n := x.turned) (by omega) (by omega)
  have hz2 : (⟨#[32, 116, 97, 105, 110, 116, 101, 100]⟩ : ByteArray).size = 8 := rfl
  unfold entT
  obtain ⟨d, hd0⟩ : ∃ d, x.addr = d := ⟨_, rfl⟩
  rw [hd0] at x1 ⊢
  generalize digT x.turned = z at *
  generalize sayV x.val = u at *
  cases htt : x.taint
  · have g0 := room_ok (n := acc.length + d.length) (by omega)
    have m0 := max_ok' (n := acc.length + d.length) (by omega)
    have g1 := room_ok (n := acc.length + d.length + 1) (by omega)
    have m1 := max_ok' (n := acc.length + d.length + 1) (by omega)
    have g2 := room_ok (n := acc.length + d.length + 1 + z.length) (by omega)
    have m2 := max_ok' (n := acc.length + d.length + 1 + z.length) (by omega)
    have g3 := room_ok (n := acc.length + d.length + 1 + z.length + 1) (by omega)
    have m3 := max_ok' (n := acc.length + d.length + 1 + z.length + 1) (by omega)
    have g4 := room_ok (n := acc.length + d.length + 1 + z.length + 1 + u.length) (by omega)
    have m4 := max_ok' (n := acc.length + d.length + 1 + z.length + 1 + u.length) (by omega)
    have g5 := room_ok (n := acc.length + d.length + 1 + z.length + 1 + u.length + 1) (by omega)
    have m5 := max_ok' (n := acc.length + d.length + 1 + z.length + 1 + u.length + 1) (by omega)
    have s0 := spare_no (a := acc.length + d.length + 1) (b := acc.length + (d.length + 1)) (by omega)
    have l0 := le_ok' (a := acc.length + d.length + 1) (b := acc.length + (d.length + 1)) (by omega)
    have s1 := spare_no (a := acc.length + d.length + 1 + z.length) (b := acc.length + (d.length + (z.length + 1))) (by omega)
    have l1 := le_ok' (a := acc.length + d.length + 1 + z.length) (b := acc.length + (d.length + (z.length + 1))) (by omega)
    have s2 := spare_no (a := acc.length + d.length + 1 + z.length + 1) (b := acc.length + (d.length + (z.length + 1 + 1))) (by omega)
    have l2 := le_ok' (a := acc.length + d.length + 1 + z.length + 1) (b := acc.length + (d.length + (z.length + 1 + 1))) (by omega)
    have s3 := spare_no (a := acc.length + d.length + 1 + z.length + 1 + u.length) (b := acc.length + (d.length + (z.length + (u.length + 1) + 1))) (by omega)
    have l3 := le_ok' (a := acc.length + d.length + 1 + z.length + 1 + u.length) (b := acc.length + (d.length + (z.length + (u.length + 1) + 1))) (by omega)
    have k0 : List.take (acc.length + d.length) (acc ++ d) = acc ++ d := List.take_of_length_le (by first | omega | (simp; done) | (simp; omega))
    have k1 : List.take (acc.length + d.length + 1) (acc ++ (d ++ [32])) = acc ++ (d ++ [32]) := List.take_of_length_le (by first | omega | (simp; done) | (simp; omega))
    have k2 : List.take (acc.length + d.length + 1 + z.length) (acc ++ (d ++ 32 :: z)) = acc ++ (d ++ 32 :: z) := List.take_of_length_le (by first | omega | (simp; done) | (simp; omega))
    have k3 : List.take (acc.length + d.length + 1 + z.length + 1) (acc ++ (d ++ 32 :: (z ++ [32]))) = acc ++ (d ++ 32 :: (z ++ [32])) := List.take_of_length_le (by first | omega | (simp; done) | (simp; omega))
    have k4 : List.take (acc.length + d.length + 1 + z.length + 1 + u.length) (acc ++ (d ++ 32 :: (z ++ 32 :: u))) = acc ++ (d ++ 32 :: (z ++ 32 :: u)) := List.take_of_length_le (by first | omega | (simp; done) | (simp; omega))
    simp [code, Tryz.f86, hr, hp1, hp4, hd0, htt, q1, q6, g0, m0, g1, m1, g2, m2, g3, m3, g4, m4, g5, m5, s0, l0, s1, l1, s2, l2, s3, l3, k0, k1, k2, k3, k4]
    try exact ⟨by omega, by simp [rws]⟩
    try omega
  · have g0 := room_ok (n := acc.length + d.length) (by omega)
    have m0 := max_ok' (n := acc.length + d.length) (by omega)
    have g1 := room_ok (n := acc.length + d.length + 1) (by omega)
    have m1 := max_ok' (n := acc.length + d.length + 1) (by omega)
    have g2 := room_ok (n := acc.length + d.length + 1 + z.length) (by omega)
    have m2 := max_ok' (n := acc.length + d.length + 1 + z.length) (by omega)
    have g3 := room_ok (n := acc.length + d.length + 1 + z.length + 8) (by omega)
    have m3 := max_ok' (n := acc.length + d.length + 1 + z.length + 8) (by omega)
    have g4 := room_ok (n := acc.length + d.length + 1 + z.length + 8 + 1) (by omega)
    have m4 := max_ok' (n := acc.length + d.length + 1 + z.length + 8 + 1) (by omega)
    have g5 := room_ok (n := acc.length + d.length + 1 + z.length + 8 + 1 + u.length) (by omega)
    have m5 := max_ok' (n := acc.length + d.length + 1 + z.length + 8 + 1 + u.length) (by omega)
    have g6 := room_ok (n := acc.length + d.length + 1 + z.length + 8 + 1 + u.length + 1) (by omega)
    have m6 := max_ok' (n := acc.length + d.length + 1 + z.length + 8 + 1 + u.length + 1) (by omega)
    have s0 := spare_no (a := acc.length + d.length + 1) (b := acc.length + (d.length + 1)) (by omega)
    have l0 := le_ok' (a := acc.length + d.length + 1) (b := acc.length + (d.length + 1)) (by omega)
    have s1 := spare_no (a := acc.length + d.length + 1 + z.length) (b := acc.length + (d.length + (z.length + 1))) (by omega)
    have l1 := le_ok' (a := acc.length + d.length + 1 + z.length) (b := acc.length + (d.length + (z.length + 1))) (by omega)
    have s2 := spare_no (a := acc.length + d.length + 1 + z.length + 8) (b := acc.length + (d.length + (z.length + 1)) + 8) (by omega)
    have l2 := le_ok' (a := acc.length + d.length + 1 + z.length + 8) (b := acc.length + (d.length + (z.length + 1)) + 8) (by omega)
    have s3 := spare_no (a := acc.length + d.length + 1 + z.length + 8 + 1) (b := acc.length + (d.length + (z.length + 1)) + 9) (by omega)
    have l3 := le_ok' (a := acc.length + d.length + 1 + z.length + 8 + 1) (b := acc.length + (d.length + (z.length + 1)) + 9) (by omega)
    have s4 := spare_no (a := acc.length + d.length + 1 + z.length + 8 + 1 + u.length) (b := acc.length + (d.length + (z.length + 1)) + (u.length + 1 + 1 + 1 + 1 + 1 + 1 + 1 + 1 + 1)) (by omega)
    have l4 := le_ok' (a := acc.length + d.length + 1 + z.length + 8 + 1 + u.length) (b := acc.length + (d.length + (z.length + 1)) + (u.length + 1 + 1 + 1 + 1 + 1 + 1 + 1 + 1 + 1)) (by omega)
    have k0 : List.take (acc.length + d.length) (acc ++ d) = acc ++ d := List.take_of_length_le (by first | omega | (simp; done) | (simp; omega))
    have k1 : List.take (acc.length + d.length + 1) (acc ++ (d ++ [32])) = acc ++ (d ++ [32]) := List.take_of_length_le (by first | omega | (simp; done) | (simp; omega))
    have k2 : List.take (acc.length + d.length + 1 + z.length) (acc ++ (d ++ 32 :: z)) = acc ++ (d ++ 32 :: z) := List.take_of_length_le (by first | omega | (simp; done) | (simp; omega))
    have k3 : List.take (acc.length + d.length + 1 + z.length + 8) (rws (numP .u8) (acc ++ (d ++ 32 :: z)) ++ [[.sc (.int .u8 32)], [.sc (.int .u8 116)], [.sc (.int .u8 97)], [.sc (.int .u8 105)], [.sc (.int .u8 110)], [.sc (.int .u8 116)], [.sc (.int .u8 101)], [.sc (.int .u8 100)]]) = rws (numP .u8) (acc ++ (d ++ 32 :: z)) ++ [[.sc (.int .u8 32)], [.sc (.int .u8 116)], [.sc (.int .u8 97)], [.sc (.int .u8 105)], [.sc (.int .u8 110)], [.sc (.int .u8 116)], [.sc (.int .u8 101)], [.sc (.int .u8 100)]] := List.take_of_length_le (by first | omega | (simp; done) | (simp; omega))
    have k4 : List.take (acc.length + d.length + 1 + z.length + 8 + 1) (rws (numP .u8) (acc ++ (d ++ 32 :: z)) ++ [[.sc (.int .u8 32)], [.sc (.int .u8 116)], [.sc (.int .u8 97)], [.sc (.int .u8 105)], [.sc (.int .u8 110)], [.sc (.int .u8 116)], [.sc (.int .u8 101)], [.sc (.int .u8 100)], [.sc (.int .u8 32)]]) = rws (numP .u8) (acc ++ (d ++ 32 :: z)) ++ [[.sc (.int .u8 32)], [.sc (.int .u8 116)], [.sc (.int .u8 97)], [.sc (.int .u8 105)], [.sc (.int .u8 110)], [.sc (.int .u8 116)], [.sc (.int .u8 101)], [.sc (.int .u8 100)], [.sc (.int .u8 32)]] := List.take_of_length_le (by first | omega | (simp; done) | (simp; omega))
    have k5 : List.take (acc.length + d.length + 1 + z.length + 8 + 1 + u.length) (rws (numP .u8) (acc ++ (d ++ 32 :: z)) ++ [.sc (.int .u8 32)] :: [.sc (.int .u8 116)] :: [.sc (.int .u8 97)] :: [.sc (.int .u8 105)] :: [.sc (.int .u8 110)] :: [.sc (.int .u8 116)] :: [.sc (.int .u8 101)] :: [.sc (.int .u8 100)] :: [.sc (.int .u8 32)] :: nums .u8 u) = rws (numP .u8) (acc ++ (d ++ 32 :: z)) ++ [.sc (.int .u8 32)] :: [.sc (.int .u8 116)] :: [.sc (.int .u8 97)] :: [.sc (.int .u8 105)] :: [.sc (.int .u8 110)] :: [.sc (.int .u8 116)] :: [.sc (.int .u8 101)] :: [.sc (.int .u8 100)] :: [.sc (.int .u8 32)] :: nums .u8 u := List.take_of_length_le (by first | omega | (simp; done) | (simp; omega))
    simp [code, Tryz.f86, hr, hp1, hp4, hd0, htt, q1, q6, hz2, g0, m0, g1, m1, g2, m2, g3, m3, g4, m4, g5, m5, g6, m6, s0, l0, s1, l1, s2, l2, s3, l3, s4, l4, k0, k1, k2, k3, k4, k5]
    try exact ⟨by omega, by simp [rws]⟩
    try omega
theorem p86 (x : En) (acc : List Int) (hx : NOk x) (he : eB x) (ha : acc.length ≤ 18874400) : phi C0 (lim C0) 86 [.ref 0 0 acc.length, .ag [.pv false (.sl (nums .u8 x.addr)), (.pv false (.sc (.int .i64 x.val.kind))), (.pv false (.sc (.int .i64 x.val.n))), .pv false (.sl (nums .u8 x.val.s)), .pv false (.sl (rws byP x.val.k)), .pv false (.sl (rws vP x.val.l)), .pv false (.sl (rws byP x.deps)), (.pv false (.sc (.bool x.taint))), (.pv false (.sc (.int .i64 x.turned)))]] [(0, .row .io 5 1 (nums .u8 acc))] = some (.ref 16 0 (acc.length + (entT x).length), [(16, .row .io 5 1 (nums .u8 (acc ++ entT x)))]) := call0 Tryz.func86 (by kernel_rfl) (e86 Tryz.f86 Tryz.results86 x acc hx he ha)
set_option maxRecDepth 100000 in
set_option maxHeartbeats 4000000 in
theorem e31 (fn : Func) (hr : fn.results = #[.tmp 2]) (hg : globs fn = [0, 1, 7, 17, 3, 23, 4, 43, 2]) (serial : Int) (opn : Bool) (pend : List Int) (act : Int) (ents : List En) (hs : SOk ⟨serial, opn, pend, act, ents⟩) : lim C0 31 fn [.c (code Tryz.f31)] ⟨number [.ag [(.pv false (.sc (.int .i64 serial))), (.pv false (.sc (.bool opn))), .pv false (.sl (nums .u8 pend)), (.pv false (.sc (.int .i64 act))), .pv false (.sl (rws nP ents))]] 0, []⟩ = some (.ref 16 0 (if stB ⟨serial, opn, pend, act, ents⟩ then stT ⟨serial, opn, pend, act, ents⟩ else []).length, [(16, .row .own 5 1 (nums .u8 (if stB ⟨serial, opn, pend, act, ents⟩ then stT ⟨serial, opn, pend, act, ents⟩ else [])))]) := by
  have hp7 := plan31_7
  simp [opsOf, code, Tryz.f31] at hp7
  have q0 := p28 serial opn pend act ents hs
  have hb := @stB_ents ⟨serial, opn, pend, act, ents⟩ hs
  cases hst : stB ⟨serial, opn, pend, act, ents⟩
  · rw [hst] at q0
    simp [code, Tryz.f31, hr, hg, hp7, q0]
  rw [hst] at q0 hb
  obtain ⟨b1, b2, b3, b4⟩ := hb rfl
  dsimp only at b1 b2 b3 b4
  simp only [if_true]
  have q1 := pDig serial (by omega) (by omega)
  have hd := digT_len (n := serial) (by omega) (by omega)
  have hz : (⟨#[115, 101, 114, 105, 97, 108, 32]⟩ : ByteArray).size = 7 := rfl
  have hz3 : (⟨#[111, 112, 101, 110]⟩ : ByteArray).size = 4 := rfl
  have hall : ∀ x ∈ ents, NOk x := hs.all
  have hpl : pend.length ≤ 1048576 := hs.pend
  clear hs hst
  obtain ⟨t, ht⟩ : ∃ t, t = stT ⟨serial, opn, pend, act, ents⟩ := ⟨_, rfl⟩
  rw [← ht]
  unfold stT headT at ht
  dsimp only at ht
  generalize digT serial = d at *
  cases opn
  · have hp' : True := trivial
    have g0 := room_ok (n := 7 + d.length) (by omega)
    have m0 := max_ok' (n := 7 + d.length) (by omega)
    have g1 := room_ok (n := 7 + d.length + 1) (by omega)
    have m1 := max_ok' (n := 7 + d.length + 1) (by omega)
    have s0 := spare_no (a := 7) (b := 7) (by omega)
    have l0 := le_ok' (a := 7) (b := 7) (by omega)
    have s1 := spare_no (a := 7 + d.length) (b := d.length + 1 + 1 + 1 + 1 + 1 + 1 + 1) (by omega)
    have l1 := le_ok' (a := 7 + d.length) (b := d.length + 1 + 1 + 1 + 1 + 1 + 1 + 1) (by omega)
    have k0 : List.take (7 + d.length) ([.sc (.int .u8 115)] :: [.sc (.int .u8 101)] :: [.sc (.int .u8 114)] :: [.sc (.int .u8 105)] :: [.sc (.int .u8 97)] :: [.sc (.int .u8 108)] :: [.sc (.int .u8 32)] :: (nums .u8 d)) = [.sc (.int .u8 115)] :: [.sc (.int .u8 101)] :: [.sc (.int .u8 114)] :: [.sc (.int .u8 105)] :: [.sc (.int .u8 97)] :: [.sc (.int .u8 108)] :: [.sc (.int .u8 32)] :: (nums .u8 d) := List.take_of_length_le (by first | omega | (simp [hg]; done) | (simp [hg]; omega))
    simp [code, Tryz.f31, hr, hg, hp7, q0, q1, hz, hz3, g0, m0, g1, m1, s0, l0, s1, l1, k0]
    have eX : [.sc (.int .u8 115)] :: [.sc (.int .u8 101)] :: [.sc (.int .u8 114)] :: [.sc (.int .u8 105)] :: [.sc (.int .u8 97)] :: [.sc (.int .u8 108)] :: [.sc (.int .u8 32)] :: (nums .u8 (d ++ [10])) = nums .u8 (115 :: 101 :: 114 :: 105 :: 97 :: 108 :: 32 :: (d ++ [10])) := by simp [hg, rws]
    have hN : (115 :: 101 :: 114 :: 105 :: 97 :: 108 :: 32 :: (d ++ [10])).length = 7 + d.length + 1 := by simp [hg]; try omega
    have ht' : t = (115 :: 101 :: 114 :: 105 :: 97 :: 108 :: 32 :: (d ++ [10])) ++ entsT ents := by rw [ht]; simp [hg, hp']
    have hNl : 7 + d.length + 1 ≤ 1048800 := by omega
    try rw [eX]
    clear ht eX
    generalize 7 + d.length + 1 = N at *
    generalize 115 :: 101 :: 114 :: 105 :: 97 :: 108 :: 32 :: (d ++ [10]) = H at *
    refine (loop_to (s0 := ?s1) (fun i => ents.length - i) (fun i => [(3, .ref 18 0 (N + (entsT (ents.take i)).length)), (4, (.pv false (.sc (.int .i64 ((i : Nat))))))]) (fun i => [(16, .box [(.pv false (.sc (.int .i64 serial))), (.pv false (.sc (.bool false))), .pv false (.sl (nums .u8 pend)), (.pv false (.sc (.int .i64 act))), .pv false (.sl (rws nP ents))]), (18, .row .own 5 1 (nums .u8 (H ++ entsT (ents.take i))))]) (fun i K => K [(3, .ref 18 0 (N + (entsT ents).length)), (4, (.pv false (.sc (.int .i64 ents.length))))] [(16, .box [(.pv false (.sc (.int .i64 serial))), (.pv false (.sc (.bool false))), .pv false (.sl (nums .u8 pend)), (.pv false (.sc (.int .i64 act))), .pv false (.sl (rws nP ents))]), (18, .row .own 5 1 (nums .u8 (H ++ entsT ents)))]) (fun i => i ≤ ents.length) 0 ?hc1 ?h01 ?hs1 ?step1).trans ?r1
    case hc1 => simp; rfl
    case h01 => first | (simp; done) | (simp [*]; done) | exact ⟨by simp, ⟨rfl⟩⟩ | grind | (simp; omega)
    case hs1 => first | (simp; done) | (simp [*]; done)
    case r1 =>
      rw [ht']
      simp [hg, hN, hr, hg, hp7]
    intro k i hi ih
    simp [hg]
    (first | refine ifL_cases (fun h => ?_) (fun h => ?_) | refine gI_cases' (fun h => ?_) (fun h => ?_) | refine gI_cases (fun h => ?_) (fun h => ?_) | refine dI_cases' (fun h => ?_) (fun h => ?_) | refine dI_cases (fun h => ?_) (fun h => ?_)) <;> first | replace h := of_decide_eq_true h | replace h := of_decide_eq_false h | skip
    · have hlt : i < ents.length := h
      have hE := entsT_len (l := ents.take i) (fun x h => b3 x (List.mem_of_mem_take h))
      have hE2 : (ents.take i).length ≤ 16 := by simp [hg]; omega
      have e1 := entsT_take hlt
      have hw2 : IntKind.i64.wrap ((i : Int) + 1) = i + 1 := wrap_id' (by omega)
      generalize hEE : entsT (ents.take i) = E at *
      have hB : (H ++ E).length = N + E.length := by simp [hg, hN]
      have q7 := p86 ents[i] (H ++ E) (hall _ (List.getElem_mem hlt)) (b3 _ (List.getElem_mem hlt)) (by simp [hg]; omega)
      rw [hB] at q7
      simp [hg, hlt, q7, hr, hg, hp7]
      refine (ih.out (i + 1) _ ?_ ?_ ?_).trans ?_
      · omega
      · omega
      · rw [e1]; simp [hg, hw2, rws]; try omega
      · simp [hg]
    · have e : i = ents.length := by omega
      subst e
      simp [hg]
  · by_cases hp : pend = []
    · have hp' := hp
      subst hp
      simp only [rws_nil] at q0
      have g0 := room_ok (n := 7 + d.length) (by omega)
      have m0 := max_ok' (n := 7 + d.length) (by omega)
      have g1 := room_ok (n := 7 + d.length + 1) (by omega)
      have m1 := max_ok' (n := 7 + d.length + 1) (by omega)
      have g2 := room_ok (n := 7 + d.length + 1 + 4) (by omega)
      have m2 := max_ok' (n := 7 + d.length + 1 + 4) (by omega)
      have g3 := room_ok (n := 7 + d.length + 1 + 4 + 1) (by omega)
      have m3 := max_ok' (n := 7 + d.length + 1 + 4 + 1) (by omega)
      have s0 := spare_no (a := 7) (b := 7) (by omega)
      have l0 := le_ok' (a := 7) (b := 7) (by omega)
      have s1 := spare_no (a := 7 + d.length) (b := d.length + 1 + 1 + 1 + 1 + 1 + 1 + 1) (by omega)
      have l1 := le_ok' (a := 7 + d.length) (b := d.length + 1 + 1 + 1 + 1 + 1 + 1 + 1) (by omega)
      have s2 := spare_no (a := 7 + d.length + 1) (b := d.length + 1 + 1 + 1 + 1 + 1 + 1 + 1 + 1) (by omega)
      have l2 := le_ok' (a := 7 + d.length + 1) (b := d.length + 1 + 1 + 1 + 1 + 1 + 1 + 1 + 1) (by omega)
      have s3 := spare_no (a := 7 + d.length + 1 + 4) (b := d.length + 1 + 4 + 1 + 1 + 1 + 1 + 1 + 1 + 1) (by omega)
      have l3 := le_ok' (a := 7 + d.length + 1 + 4) (b := d.length + 1 + 4 + 1 + 1 + 1 + 1 + 1 + 1 + 1) (by omega)
      have k0 : List.take (7 + d.length) ([.sc (.int .u8 115)] :: [.sc (.int .u8 101)] :: [.sc (.int .u8 114)] :: [.sc (.int .u8 105)] :: [.sc (.int .u8 97)] :: [.sc (.int .u8 108)] :: [.sc (.int .u8 32)] :: (nums .u8 d)) = [.sc (.int .u8 115)] :: [.sc (.int .u8 101)] :: [.sc (.int .u8 114)] :: [.sc (.int .u8 105)] :: [.sc (.int .u8 97)] :: [.sc (.int .u8 108)] :: [.sc (.int .u8 32)] :: (nums .u8 d) := List.take_of_length_le (by first | omega | (simp [hg]; done) | (simp [hg]; omega))
      have k1 : List.take (7 + d.length + 1) ([.sc (.int .u8 115)] :: [.sc (.int .u8 101)] :: [.sc (.int .u8 114)] :: [.sc (.int .u8 105)] :: [.sc (.int .u8 97)] :: [.sc (.int .u8 108)] :: [.sc (.int .u8 32)] :: (nums .u8 (d ++ [10]))) = [.sc (.int .u8 115)] :: [.sc (.int .u8 101)] :: [.sc (.int .u8 114)] :: [.sc (.int .u8 105)] :: [.sc (.int .u8 97)] :: [.sc (.int .u8 108)] :: [.sc (.int .u8 32)] :: (nums .u8 (d ++ [10])) := List.take_of_length_le (by first | omega | (simp [hg]; done) | (simp [hg]; omega))
      have k2 : List.take (7 + d.length + 1 + 4) ([.sc (.int .u8 115)] :: [.sc (.int .u8 101)] :: [.sc (.int .u8 114)] :: [.sc (.int .u8 105)] :: [.sc (.int .u8 97)] :: [.sc (.int .u8 108)] :: [.sc (.int .u8 32)] :: (nums .u8 (d ++ [10]) ++ [[.sc (.int .u8 111)], [.sc (.int .u8 112)], [.sc (.int .u8 101)], [.sc (.int .u8 110)]])) = [.sc (.int .u8 115)] :: [.sc (.int .u8 101)] :: [.sc (.int .u8 114)] :: [.sc (.int .u8 105)] :: [.sc (.int .u8 97)] :: [.sc (.int .u8 108)] :: [.sc (.int .u8 32)] :: (nums .u8 (d ++ [10]) ++ [[.sc (.int .u8 111)], [.sc (.int .u8 112)], [.sc (.int .u8 101)], [.sc (.int .u8 110)]]) := List.take_of_length_le (by first | omega | (simp [hg]; done) | (simp [hg]; omega))
      simp [code, Tryz.f31, hr, hg, hp7, q0, q1, hz, hz3, g0, m0, g1, m1, g2, m2, g3, m3, s0, l0, s1, l1, s2, l2, s3, l3, k0, k1, k2]
      have eX : [.sc (.int .u8 115)] :: [.sc (.int .u8 101)] :: [.sc (.int .u8 114)] :: [.sc (.int .u8 105)] :: [.sc (.int .u8 97)] :: [.sc (.int .u8 108)] :: [.sc (.int .u8 32)] :: (nums .u8 (d ++ [10]) ++ [[.sc (.int .u8 111)], [.sc (.int .u8 112)], [.sc (.int .u8 101)], [.sc (.int .u8 110)], [.sc (.int .u8 10)]]) = nums .u8 (115 :: 101 :: 114 :: 105 :: 97 :: 108 :: 32 :: (d ++ [10] ++ [111, 112, 101, 110, 10])) := by simp [hg, rws]
      have hN : (115 :: 101 :: 114 :: 105 :: 97 :: 108 :: 32 :: (d ++ [10] ++ [111, 112, 101, 110, 10])).length = 7 + d.length + 1 + 4 + 1 := by simp [hg]; try omega
      have ht' : t = (115 :: 101 :: 114 :: 105 :: 97 :: 108 :: 32 :: (d ++ [10] ++ [111, 112, 101, 110, 10])) ++ entsT ents := by rw [ht]; simp [hg, hp']
      have hNl : 7 + d.length + 1 + 4 + 1 ≤ 1048800 := by omega
      try rw [eX]
      clear ht eX
      generalize 7 + d.length + 1 + 4 + 1 = N at *
      generalize 115 :: 101 :: 114 :: 105 :: 97 :: 108 :: 32 :: (d ++ [10] ++ [111, 112, 101, 110, 10]) = H at *
      refine (loop_to (s0 := ?s2) (fun i => ents.length - i) (fun i => [(3, .ref 18 0 (N + (entsT (ents.take i)).length)), (4, (.pv false (.sc (.int .i64 ((i : Nat))))))]) (fun i => [(16, .box [(.pv false (.sc (.int .i64 serial))), (.pv false (.sc (.bool true))), .pv false (.sl ([])), (.pv false (.sc (.int .i64 act))), .pv false (.sl (rws nP ents))]), (18, .row .own 5 1 (nums .u8 (H ++ entsT (ents.take i))))]) (fun i K => K [(3, .ref 18 0 (N + (entsT ents).length)), (4, (.pv false (.sc (.int .i64 ents.length))))] [(16, .box [(.pv false (.sc (.int .i64 serial))), (.pv false (.sc (.bool true))), .pv false (.sl ([])), (.pv false (.sc (.int .i64 act))), .pv false (.sl (rws nP ents))]), (18, .row .own 5 1 (nums .u8 (H ++ entsT ents)))]) (fun i => i ≤ ents.length) 0 ?hc2 ?h02 ?hs2 ?step2).trans ?r2
      case hc2 => simp; rfl
      case h02 => first | (simp; done) | (simp [*]; done) | exact ⟨by simp, ⟨rfl⟩⟩ | grind | (simp; omega)
      case hs2 => first | (simp; done) | (simp [*]; done)
      case r2 =>
        rw [ht']
        simp [hg, hN, hr, hg, hp7]
      intro k i hi ih
      simp [hg]
      (first | refine ifL_cases (fun h => ?_) (fun h => ?_) | refine gI_cases' (fun h => ?_) (fun h => ?_) | refine gI_cases (fun h => ?_) (fun h => ?_) | refine dI_cases' (fun h => ?_) (fun h => ?_) | refine dI_cases (fun h => ?_) (fun h => ?_)) <;> first | replace h := of_decide_eq_true h | replace h := of_decide_eq_false h | skip
      · have hlt : i < ents.length := h
        have hE := entsT_len (l := ents.take i) (fun x h => b3 x (List.mem_of_mem_take h))
        have hE2 : (ents.take i).length ≤ 16 := by simp [hg]; omega
        have e1 := entsT_take hlt
        have hw2 : IntKind.i64.wrap ((i : Int) + 1) = i + 1 := wrap_id' (by omega)
        generalize hEE : entsT (ents.take i) = E at *
        have hB : (H ++ E).length = N + E.length := by simp [hg, hN]
        have q7 := p86 ents[i] (H ++ E) (hall _ (List.getElem_mem hlt)) (b3 _ (List.getElem_mem hlt)) (by simp [hg]; omega)
        rw [hB] at q7
        simp [hg, hlt, q7, hr, hg, hp7]
        refine (ih.out (i + 1) _ ?_ ?_ ?_).trans ?_
        · omega
        · omega
        · rw [e1]; simp [hg, hw2, rws]; try omega
        · simp [hg]
      · have e : i = ents.length := by omega
        subst e
        simp [hg]
    · have hp' := hp
      have hp1 : 0 < pend.length := List.length_pos_iff.2 hp
      have q3 := p58 act (by have := b4 hp; omega) (by have := b4 hp; omega)
      obtain ⟨w1, w2, w3⟩ := actT_ok act
      have q4 := bytes_back w1
      have q5 : (strOfNums (actT act)).size = (actT act).length := strOfNums_size _
      generalize actT act = a at *
      have g0 := room_ok (n := 7 + d.length) (by omega)
      have m0 := max_ok' (n := 7 + d.length) (by omega)
      have g1 := room_ok (n := 7 + d.length + 1) (by omega)
      have m1 := max_ok' (n := 7 + d.length + 1) (by omega)
      have g2 := room_ok (n := 7 + d.length + 1 + 4) (by omega)
      have m2 := max_ok' (n := 7 + d.length + 1 + 4) (by omega)
      have g3 := room_ok (n := 7 + d.length + 1 + 4 + 1) (by omega)
      have m3 := max_ok' (n := 7 + d.length + 1 + 4 + 1) (by omega)
      have g4 := room_ok (n := 7 + d.length + 1 + 4 + 1 + a.length) (by omega)
      have m4 := max_ok' (n := 7 + d.length + 1 + 4 + 1 + a.length) (by omega)
      have g5 := room_ok (n := 7 + d.length + 1 + 4 + 1 + a.length + 1) (by omega)
      have m5 := max_ok' (n := 7 + d.length + 1 + 4 + 1 + a.length + 1) (by omega)
      have g6 := room_ok (n := 7 + d.length + 1 + 4 + 1 + a.length + 1 + pend.length) (by omega)
      have m6 := max_ok' (n := 7 + d.length + 1 + 4 + 1 + a.length + 1 + pend.length) (by omega)
      have g7 := room_ok (n := 7 + d.length + 1 + 4 + 1 + a.length + 1 + pend.length + 1) (by omega)
      have m7 := max_ok' (n := 7 + d.length + 1 + 4 + 1 + a.length + 1 + pend.length + 1) (by omega)
      have s0 := spare_no (a := 7) (b := 7) (by omega)
      have l0 := le_ok' (a := 7) (b := 7) (by omega)
      have s1 := spare_no (a := 7 + d.length) (b := d.length + 1 + 1 + 1 + 1 + 1 + 1 + 1) (by omega)
      have l1 := le_ok' (a := 7 + d.length) (b := d.length + 1 + 1 + 1 + 1 + 1 + 1 + 1) (by omega)
      have s2 := spare_no (a := 7 + d.length + 1) (b := d.length + 1 + 1 + 1 + 1 + 1 + 1 + 1 + 1) (by omega)
      have l2 := le_ok' (a := 7 + d.length + 1) (b := d.length + 1 + 1 + 1 + 1 + 1 + 1 + 1 + 1) (by omega)
      have s3 := spare_no (a := 7 + d.length + 1 + 4) (b := d.length + 1 + 4 + 1 + 1 + 1 + 1 + 1 + 1 + 1) (by omega)
      have l3 := le_ok' (a := 7 + d.length + 1 + 4) (b := d.length + 1 + 4 + 1 + 1 + 1 + 1 + 1 + 1 + 1) (by omega)
      have s4 := spare_no (a := 7 + d.length + 1 + 4 + 1) (b := d.length + 1 + 5 + 1 + 1 + 1 + 1 + 1 + 1 + 1) (by omega)
      have l4 := le_ok' (a := 7 + d.length + 1 + 4 + 1) (b := d.length + 1 + 5 + 1 + 1 + 1 + 1 + 1 + 1 + 1) (by omega)
      have s5 := spare_no (a := 7 + d.length + 1 + 4 + 1 + a.length) (b := d.length + 1 + (a.length + 1 + 1 + 1 + 1 + 1) + 1 + 1 + 1 + 1 + 1 + 1 + 1) (by omega)
      have l5 := le_ok' (a := 7 + d.length + 1 + 4 + 1 + a.length) (b := d.length + 1 + (a.length + 1 + 1 + 1 + 1 + 1) + 1 + 1 + 1 + 1 + 1 + 1 + 1) (by omega)
      have s6 := spare_no (a := 7 + d.length + 1 + 4 + 1 + a.length + 1) (b := d.length + 1 + (a.length + 1 + 1 + 1 + 1 + 1 + 1) + 1 + 1 + 1 + 1 + 1 + 1 + 1) (by omega)
      have l6 := le_ok' (a := 7 + d.length + 1 + 4 + 1 + a.length + 1) (b := d.length + 1 + (a.length + 1 + 1 + 1 + 1 + 1 + 1) + 1 + 1 + 1 + 1 + 1 + 1 + 1) (by omega)
      have s7 := spare_no (a := 7 + d.length + 1 + 4 + 1 + a.length + 1 + pend.length) (b := d.length + 1 + (a.length + (pend.length + 1) + 1 + 1 + 1 + 1 + 1) + 1 + 1 + 1 + 1 + 1 + 1 + 1) (by omega)
      have l7 := le_ok' (a := 7 + d.length + 1 + 4 + 1 + a.length + 1 + pend.length) (b := d.length + 1 + (a.length + (pend.length + 1) + 1 + 1 + 1 + 1 + 1) + 1 + 1 + 1 + 1 + 1 + 1 + 1) (by omega)
      have k0 : List.take (7 + d.length) ([.sc (.int .u8 115)] :: [.sc (.int .u8 101)] :: [.sc (.int .u8 114)] :: [.sc (.int .u8 105)] :: [.sc (.int .u8 97)] :: [.sc (.int .u8 108)] :: [.sc (.int .u8 32)] :: (nums .u8 d)) = [.sc (.int .u8 115)] :: [.sc (.int .u8 101)] :: [.sc (.int .u8 114)] :: [.sc (.int .u8 105)] :: [.sc (.int .u8 97)] :: [.sc (.int .u8 108)] :: [.sc (.int .u8 32)] :: (nums .u8 d) := List.take_of_length_le (by first | omega | (simp [hg]; done) | (simp [hg]; omega))
      have k1 : List.take (7 + d.length + 1) ([.sc (.int .u8 115)] :: [.sc (.int .u8 101)] :: [.sc (.int .u8 114)] :: [.sc (.int .u8 105)] :: [.sc (.int .u8 97)] :: [.sc (.int .u8 108)] :: [.sc (.int .u8 32)] :: (nums .u8 (d ++ [10]))) = [.sc (.int .u8 115)] :: [.sc (.int .u8 101)] :: [.sc (.int .u8 114)] :: [.sc (.int .u8 105)] :: [.sc (.int .u8 97)] :: [.sc (.int .u8 108)] :: [.sc (.int .u8 32)] :: (nums .u8 (d ++ [10])) := List.take_of_length_le (by first | omega | (simp [hg]; done) | (simp [hg]; omega))
      have k2 : List.take (7 + d.length + 1 + 4) ([.sc (.int .u8 115)] :: [.sc (.int .u8 101)] :: [.sc (.int .u8 114)] :: [.sc (.int .u8 105)] :: [.sc (.int .u8 97)] :: [.sc (.int .u8 108)] :: [.sc (.int .u8 32)] :: (nums .u8 (d ++ [10]) ++ [[.sc (.int .u8 111)], [.sc (.int .u8 112)], [.sc (.int .u8 101)], [.sc (.int .u8 110)]])) = [.sc (.int .u8 115)] :: [.sc (.int .u8 101)] :: [.sc (.int .u8 114)] :: [.sc (.int .u8 105)] :: [.sc (.int .u8 97)] :: [.sc (.int .u8 108)] :: [.sc (.int .u8 32)] :: (nums .u8 (d ++ [10]) ++ [[.sc (.int .u8 111)], [.sc (.int .u8 112)], [.sc (.int .u8 101)], [.sc (.int .u8 110)]]) := List.take_of_length_le (by first | omega | (simp [hg]; done) | (simp [hg]; omega))
      have k3 : List.take (7 + d.length + 1 + 4 + 1) ([.sc (.int .u8 115)] :: [.sc (.int .u8 101)] :: [.sc (.int .u8 114)] :: [.sc (.int .u8 105)] :: [.sc (.int .u8 97)] :: [.sc (.int .u8 108)] :: [.sc (.int .u8 32)] :: (nums .u8 (d ++ [10]) ++ [[.sc (.int .u8 111)], [.sc (.int .u8 112)], [.sc (.int .u8 101)], [.sc (.int .u8 110)], [.sc (.int .u8 32)]])) = [.sc (.int .u8 115)] :: [.sc (.int .u8 101)] :: [.sc (.int .u8 114)] :: [.sc (.int .u8 105)] :: [.sc (.int .u8 97)] :: [.sc (.int .u8 108)] :: [.sc (.int .u8 32)] :: (nums .u8 (d ++ [10]) ++ [[.sc (.int .u8 111)], [.sc (.int .u8 112)], [.sc (.int .u8 101)], [.sc (.int .u8 110)], [.sc (.int .u8 32)]]) := List.take_of_length_le (by first | omega | (simp [hg]; done) | (simp [hg]; omega))
      have k4 : List.take (7 + d.length + 1 + 4 + 1 + a.length) ([.sc (.int .u8 115)] :: [.sc (.int .u8 101)] :: [.sc (.int .u8 114)] :: [.sc (.int .u8 105)] :: [.sc (.int .u8 97)] :: [.sc (.int .u8 108)] :: [.sc (.int .u8 32)] :: (nums .u8 (d ++ [10]) ++ [.sc (.int .u8 111)] :: [.sc (.int .u8 112)] :: [.sc (.int .u8 101)] :: [.sc (.int .u8 110)] :: [.sc (.int .u8 32)] :: nums .u8 a)) = [.sc (.int .u8 115)] :: [.sc (.int .u8 101)] :: [.sc (.int .u8 114)] :: [.sc (.int .u8 105)] :: [.sc (.int .u8 97)] :: [.sc (.int .u8 108)] :: [.sc (.int .u8 32)] :: (nums .u8 (d ++ [10]) ++ [.sc (.int .u8 111)] :: [.sc (.int .u8 112)] :: [.sc (.int .u8 101)] :: [.sc (.int .u8 110)] :: [.sc (.int .u8 32)] :: nums .u8 a) := List.take_of_length_le (by first | omega | (simp [hg]; done) | (simp [hg]; omega))
      have k5 : List.take (7 + d.length + 1 + 4 + 1 + a.length + 1) ([.sc (.int .u8 115)] :: [.sc (.int .u8 101)] :: [.sc (.int .u8 114)] :: [.sc (.int .u8 105)] :: [.sc (.int .u8 97)] :: [.sc (.int .u8 108)] :: [.sc (.int .u8 32)] :: (nums .u8 (d ++ [10]) ++ [.sc (.int .u8 111)] :: [.sc (.int .u8 112)] :: [.sc (.int .u8 101)] :: [.sc (.int .u8 110)] :: [.sc (.int .u8 32)] :: nums .u8 (a ++ [32]))) = [.sc (.int .u8 115)] :: [.sc (.int .u8 101)] :: [.sc (.int .u8 114)] :: [.sc (.int .u8 105)] :: [.sc (.int .u8 97)] :: [.sc (.int .u8 108)] :: [.sc (.int .u8 32)] :: (nums .u8 (d ++ [10]) ++ [.sc (.int .u8 111)] :: [.sc (.int .u8 112)] :: [.sc (.int .u8 101)] :: [.sc (.int .u8 110)] :: [.sc (.int .u8 32)] :: nums .u8 (a ++ [32])) := List.take_of_length_le (by first | omega | (simp [hg]; done) | (simp [hg]; omega))
      have k6 : List.take (7 + d.length + 1 + 4 + 1 + a.length + 1 + pend.length) ([.sc (.int .u8 115)] :: [.sc (.int .u8 101)] :: [.sc (.int .u8 114)] :: [.sc (.int .u8 105)] :: [.sc (.int .u8 97)] :: [.sc (.int .u8 108)] :: [.sc (.int .u8 32)] :: (nums .u8 (d ++ [10]) ++ [.sc (.int .u8 111)] :: [.sc (.int .u8 112)] :: [.sc (.int .u8 101)] :: [.sc (.int .u8 110)] :: [.sc (.int .u8 32)] :: nums .u8 (a ++ 32 :: pend))) = [.sc (.int .u8 115)] :: [.sc (.int .u8 101)] :: [.sc (.int .u8 114)] :: [.sc (.int .u8 105)] :: [.sc (.int .u8 97)] :: [.sc (.int .u8 108)] :: [.sc (.int .u8 32)] :: (nums .u8 (d ++ [10]) ++ [.sc (.int .u8 111)] :: [.sc (.int .u8 112)] :: [.sc (.int .u8 101)] :: [.sc (.int .u8 110)] :: [.sc (.int .u8 32)] :: nums .u8 (a ++ 32 :: pend)) := List.take_of_length_le (by first | omega | (simp [hg]; done) | (simp [hg]; omega))
      simp [code, Tryz.f31, hr, hg, hp7, q0, q1, hz, hz3, hp, hp1, q3, q4, q5, g0, m0, g1, m1, g2, m2, g3, m3, g4, m4, g5, m5, g6, m6, g7, m7, s0, l0, s1, l1, s2, l2, s3, l3, s4, l4, s5, l5, s6, l6, s7, l7, k0, k1, k2, k3, k4, k5, k6]
      have eX : [.sc (.int .u8 115)] :: [.sc (.int .u8 101)] :: [.sc (.int .u8 114)] :: [.sc (.int .u8 105)] :: [.sc (.int .u8 97)] :: [.sc (.int .u8 108)] :: [.sc (.int .u8 32)] :: (nums .u8 (d ++ [10]) ++ [.sc (.int .u8 111)] :: [.sc (.int .u8 112)] :: [.sc (.int .u8 101)] :: [.sc (.int .u8 110)] :: [.sc (.int .u8 32)] :: nums .u8 (a ++ 32 :: (pend ++ [10]))) = nums .u8 (115 :: 101 :: 114 :: 105 :: 97 :: 108 :: 32 :: (d ++ [10] ++ [111, 112, 101, 110, 32] ++ (a ++ 32 :: (pend ++ [10])))) := by simp [hg, rws]
      have hN : (115 :: 101 :: 114 :: 105 :: 97 :: 108 :: 32 :: (d ++ [10] ++ [111, 112, 101, 110, 32] ++ (a ++ 32 :: (pend ++ [10])))).length = 7 + d.length + 1 + 4 + 1 + a.length + 1 + pend.length + 1 := by simp [hg]; try omega
      have ht' : t = (115 :: 101 :: 114 :: 105 :: 97 :: 108 :: 32 :: (d ++ [10] ++ [111, 112, 101, 110, 32] ++ (a ++ 32 :: (pend ++ [10])))) ++ entsT ents := by rw [ht]; simp [hg, hp']
      have hNl : 7 + d.length + 1 + 4 + 1 + a.length + 1 + pend.length + 1 ≤ 1048800 := by omega
      try rw [eX]
      clear ht eX
      generalize 7 + d.length + 1 + 4 + 1 + a.length + 1 + pend.length + 1 = N at *
      generalize 115 :: 101 :: 114 :: 105 :: 97 :: 108 :: 32 :: (d ++ [10] ++ [111, 112, 101, 110, 32] ++ (a ++ 32 :: (pend ++ [10]))) = H at *
      refine (loop_to (s0 := ?s3) (fun i => ents.length - i) (fun i => [(3, .ref 18 0 (N + (entsT (ents.take i)).length)), (4, (.pv false (.sc (.int .i64 ((i : Nat))))))]) (fun i => [(16, .box [(.pv false (.sc (.int .i64 serial))), (.pv false (.sc (.bool true))), .pv false (.sl (nums .u8 pend)), (.pv false (.sc (.int .i64 act))), .pv false (.sl (rws nP ents))]), (18, .row .own 5 1 (nums .u8 (H ++ entsT (ents.take i))))]) (fun i K => K [(3, .ref 18 0 (N + (entsT ents).length)), (4, (.pv false (.sc (.int .i64 ents.length))))] [(16, .box [(.pv false (.sc (.int .i64 serial))), (.pv false (.sc (.bool true))), .pv false (.sl (nums .u8 pend)), (.pv false (.sc (.int .i64 act))), .pv false (.sl (rws nP ents))]), (18, .row .own 5 1 (nums .u8 (H ++ entsT ents)))]) (fun i => i ≤ ents.length) 0 ?hc3 ?h03 ?hs3 ?step3).trans ?r3
      case hc3 => simp; rfl
      case h03 => first | (simp; done) | (simp [*]; done) | exact ⟨by simp, ⟨rfl⟩⟩ | grind | (simp; omega)
      case hs3 => first | (simp; done) | (simp [*]; done)
      case r3 =>
        rw [ht']
        simp [hg, hN, hr, hg, hp7]
      intro k i hi ih
      simp [hg]
      (first | refine ifL_cases (fun h => ?_) (fun h => ?_) | refine gI_cases' (fun h => ?_) (fun h => ?_) | refine gI_cases (fun h => ?_) (fun h => ?_) | refine dI_cases' (fun h => ?_) (fun h => ?_) | refine dI_cases (fun h => ?_) (fun h => ?_)) <;> first | replace h := of_decide_eq_true h | replace h := of_decide_eq_false h | skip
      · have hlt : i < ents.length := h
        have hE := entsT_len (l := ents.take i) (fun x h => b3 x (List.mem_of_mem_take h))
        have hE2 : (ents.take i).length ≤ 16 := by simp [hg]; omega
        have e1 := entsT_take hlt
        have hw2 : IntKind.i64.wrap ((i : Int) + 1) = i + 1 := wrap_id' (by omega)
        generalize hEE : entsT (ents.take i) = E at *
        have hB : (H ++ E).length = N + E.length := by simp [hg, hN]
        have q7 := p86 ents[i] (H ++ E) (hall _ (List.getElem_mem hlt)) (b3 _ (List.getElem_mem hlt)) (by simp [hg]; omega)
        rw [hB] at q7
        simp [hg, hlt, q7, hr, hg, hp7]
        refine (ih.out (i + 1) _ ?_ ?_ ?_).trans ?_
        · omega
        · omega
        · rw [e1]; simp [hg, hw2, rws]; try omega
        · simp [hg]
      · have e : i = ents.length := by omega
        subst e
        simp [hg]
theorem p31 (serial : Int) (opn : Bool) (pend : List Int) (act : Int) (ents : List En) (hs : SOk ⟨serial, opn, pend, act, ents⟩) : phi C0 (lim C0) 31 [.ag [(.pv false (.sc (.int .i64 serial))), (.pv false (.sc (.bool opn))), .pv false (.sl (nums .u8 pend)), (.pv false (.sc (.int .i64 act))), .pv false (.sl (rws nP ents))]] [] = some (.ref 16 0 (if stB ⟨serial, opn, pend, act, ents⟩ then stT ⟨serial, opn, pend, act, ents⟩ else []).length, [(16, .row .own 5 1 (nums .u8 (if stB ⟨serial, opn, pend, act, ents⟩ then stT ⟨serial, opn, pend, act, ents⟩ else [])))]) := call0 Tryz.func31 (by kernel_rfl) (e31 Tryz.f31 Tryz.results31 gl31 serial opn pend act ents hs)
end Go.Proofs.YtgkhojgmpojodaaGreatDoor
