/- Texts of events, by the reference. -/
import Derived.Test.YtgkhojgmpojodaaGreatDoorW2
namespace Go.Proofs.YtgkhojgmpojodaaGreatDoor
open Go Go.Pm Go.Proofs
set_option linter.unusedVariables false
set_option linter.unusedSimpArgs false
set_option maxRecDepth 100000
set_option maxHeartbeats 4000000
theorem p21 (e : Ev) (he : EOk e) : phi C0 (lim C0) 21 [.ag [(.pv false (.sc (.int .i64 e.kind))), .pv false (.sl (nums .u8 e.addr)), (.pv false (.sc (.int .i64 e.act))), (.pv false (.sc (.int .i64 e.val.kind))), (.pv false (.sc (.int .i64 e.val.n))), .pv false (.sl (nums .u8 e.val.s)), .pv false (.sl (rws byP e.val.k)), .pv false (.sl (rws vP e.val.l)), .pv false (.sl (rws byP e.deps))]] [] = some (.ref 16 0 (if evB e then evT e else []).length, [(16, .row .own 5 1 (nums .u8 (if evB e then evT e else [])))]) := call0 Tryz.func21 (by kernel_rfl) ((show ∀ fn : Func, fn.results = #[.tmp 2] → lim C0 21 fn [.c (code Tryz.f21)] ⟨_, _⟩ = _ from fun fn hr => by
  have hp5 := plan21_5
  simp [opsOf, code, Tryz.f21] at hp5
  have hp7 := plan21_7
  simp [opsOf, code, Tryz.f21] at hp7
  have hp9 := plan21_9
  simp [opsOf, code, Tryz.f21] at hp9
  have q1 := p41 e he
  cases hb : evB e
  · rw [hb] at q1
    simp [code, Tryz.f21, hr, hp5, hp7, hp9, q1]
  rw [hb] at q1
  obtain ⟨hk, ha, h1, h2⟩ := evB_kind hb
  have hd := he.addr
  simp only [if_true]
  unfold evT knT
  obtain ⟨d, hd0⟩ : ∃ d, e.addr = d := ⟨_, rfl⟩
  rw [hd0] at hd ha ⊢
  have z0 : (⟨#[98, 101, 103, 105, 110]⟩ : ByteArray).size = 5 := rfl
  have z1 : (⟨#[105, 110, 116, 101, 110, 116]⟩ : ByteArray).size = 6 := rfl
  have z2 : (⟨#[100, 111, 110, 101]⟩ : ByteArray).size = 4 := rfl
  have z3 : (⟨#[103, 111, 110, 101]⟩ : ByteArray).size = 4 := rfl
  have z4 : (⟨#[102, 97, 105, 108]⟩ : ByteArray).size = 4 := rfl
  have z5 : (⟨#[101, 110, 100]⟩ : ByteArray).size = 3 := rfl
  have z6 : (⟨#[114, 101, 115, 101, 116]⟩ : ByteArray).size = 5 := rfl
  rcases hk with k | k | k | k | k | k | k
  · simp only [k, hd0] at q1
    have ha' : d = [] := ha.2 (by omega)
    subst ha'
    simp only [rws_nil] at q1
    simp [code, Tryz.f21, hr, hp5, hp7, hp9, q1, k, hd0, z0, z1, z2, z3, z4, z5, z6]
    try simp [rws]
  · simp only [k, hd0] at q1
    have ha' : ¬ d = [] := fun h => by have := ha.1 h; omega
    have hp : 0 < d.length := List.length_pos_iff.2 ha'
    have q3 := p58 e.act (by have := h1 k; omega) (by have := h1 k; omega)
    obtain ⟨w1, w2, w3⟩ := actT_ok e.act
    have q4 := bytes_back w1
    have q5 : (strOfNums (actT e.act)).size = (actT e.act).length := strOfNums_size _
    generalize actT e.act = a at *
    have g0 := room_ok (n := 7) (by omega)
    have m0 := max_ok' (n := 7) (by omega)
    have g1 := room_ok (n := 7 + d.length) (by omega)
    have m1 := max_ok' (n := 7 + d.length) (by omega)
    have g2 := room_ok (n := 7 + d.length + 1) (by omega)
    have m2 := max_ok' (n := 7 + d.length + 1) (by omega)
    have g3 := room_ok (n := 7 + d.length + 1 + a.length) (by omega)
    have m3 := max_ok' (n := 7 + d.length + 1 + a.length) (by omega)
    have s0 := spare_no (a := 6) (b := 6) (by omega)
    have l0 := le_ok' (a := 6) (b := 6) (by omega)
    have s1 := spare_no (a := 7) (b := 7) (by omega)
    have l1 := le_ok' (a := 7) (b := 7) (by omega)
    have s2 := spare_no (a := 7 + d.length) (b := d.length + 1 + 1 + 1 + 1 + 1 + 1 + 1) (by omega)
    have l2 := le_ok' (a := 7 + d.length) (b := d.length + 1 + 1 + 1 + 1 + 1 + 1 + 1) (by omega)
    have s3 := spare_no (a := 7 + d.length + 1) (b := d.length + 1 + 1 + 1 + 1 + 1 + 1 + 1 + 1) (by omega)
    have l3 := le_ok' (a := 7 + d.length + 1) (b := d.length + 1 + 1 + 1 + 1 + 1 + 1 + 1 + 1) (by omega)
    simp [code, Tryz.f21, hr, hp5, hp7, hp9, q1, k, hd0, hp, ha', q3, q4, q5, z0, z1, z2, z3, z4, z5, z6, g0, m0, g1, m1, g2, m2, g3, m3, s0, l0, s1, l1, s2, l2, s3, l3]
    (repeat rw [List.take_of_length_le (by first | (simp; done) | (simp; omega))])
    exact ⟨by omega, by simp [rws]⟩
  · simp only [k, hd0] at q1
    have ha' : ¬ d = [] := fun h => by have := ha.1 h; omega
    have hp : 0 < d.length := List.length_pos_iff.2 ha'
    have hv5 : shV e.val 5 = true ∧ ptV e.val ≤ 40 := by simpa [valB] using h2 k
    have hu := say_len e.val 5 hv5.1
    have q6 := pSay e.val (sh_say _ 5 hv5.1 he.vl (by omega))
    generalize sayV e.val = u at *
    have g0 := room_ok (n := 5) (by omega)
    have m0 := max_ok' (n := 5) (by omega)
    have g1 := room_ok (n := 5 + d.length) (by omega)
    have m1 := max_ok' (n := 5 + d.length) (by omega)
    have g2 := room_ok (n := 5 + d.length + 1) (by omega)
    have m2 := max_ok' (n := 5 + d.length + 1) (by omega)
    have g3 := room_ok (n := 5 + d.length + 1 + u.length) (by omega)
    have m3 := max_ok' (n := 5 + d.length + 1 + u.length) (by omega)
    have s0 := spare_no (a := 4) (b := 4) (by omega)
    have l0 := le_ok' (a := 4) (b := 4) (by omega)
    have s1 := spare_no (a := 5) (b := 5) (by omega)
    have l1 := le_ok' (a := 5) (b := 5) (by omega)
    have s2 := spare_no (a := 5 + d.length) (b := d.length + 1 + 1 + 1 + 1 + 1) (by omega)
    have l2 := le_ok' (a := 5 + d.length) (b := d.length + 1 + 1 + 1 + 1 + 1) (by omega)
    have s3 := spare_no (a := 5 + d.length + 1) (b := d.length + 1 + 1 + 1 + 1 + 1 + 1) (by omega)
    have l3 := le_ok' (a := 5 + d.length + 1) (b := d.length + 1 + 1 + 1 + 1 + 1 + 1) (by omega)
    simp [code, Tryz.f21, hr, hp5, hp7, hp9, q1, k, hd0, hp, ha', q6, z0, z1, z2, z3, z4, z5, z6, g0, m0, g1, m1, g2, m2, g3, m3, s0, l0, s1, l1, s2, l2, s3, l3]
    (repeat rw [List.take_of_length_le (by first | (simp; done) | (simp; omega))])
    exact ⟨by omega, by simp [rws]⟩
  · simp only [k, hd0] at q1
    have ha' : ¬ d = [] := fun h => by have := ha.1 h; omega
    have hp : 0 < d.length := List.length_pos_iff.2 ha'
    have g0 := room_ok (n := 5) (by omega)
    have m0 := max_ok' (n := 5) (by omega)
    have g1 := room_ok (n := 5 + d.length) (by omega)
    have m1 := max_ok' (n := 5 + d.length) (by omega)
    have s0 := spare_no (a := 4) (b := 4) (by omega)
    have l0 := le_ok' (a := 4) (b := 4) (by omega)
    have s1 := spare_no (a := 5) (b := 5) (by omega)
    have l1 := le_ok' (a := 5) (b := 5) (by omega)
    simp [code, Tryz.f21, hr, hp5, hp7, hp9, q1, k, hd0, hp, ha', z0, z1, z2, z3, z4, z5, z6, g0, m0, g1, m1, s0, l0, s1, l1]
    try simp [rws]
    omega
  · simp only [k, hd0] at q1
    have ha' : ¬ d = [] := fun h => by have := ha.1 h; omega
    have hp : 0 < d.length := List.length_pos_iff.2 ha'
    have g0 := room_ok (n := 5) (by omega)
    have m0 := max_ok' (n := 5) (by omega)
    have g1 := room_ok (n := 5 + d.length) (by omega)
    have m1 := max_ok' (n := 5 + d.length) (by omega)
    have s0 := spare_no (a := 4) (b := 4) (by omega)
    have l0 := le_ok' (a := 4) (b := 4) (by omega)
    have s1 := spare_no (a := 5) (b := 5) (by omega)
    have l1 := le_ok' (a := 5) (b := 5) (by omega)
    simp [code, Tryz.f21, hr, hp5, hp7, hp9, q1, k, hd0, hp, ha', z0, z1, z2, z3, z4, z5, z6, g0, m0, g1, m1, s0, l0, s1, l1]
    try simp [rws]
    omega
  · simp only [k, hd0] at q1
    have ha' : d = [] := ha.2 (by omega)
    subst ha'
    simp only [rws_nil] at q1
    simp [code, Tryz.f21, hr, hp5, hp7, hp9, q1, k, hd0, z0, z1, z2, z3, z4, z5, z6]
    try simp [rws]
  · simp only [k, hd0] at q1
    have ha' : d = [] := ha.2 (by omega)
    subst ha'
    simp only [rws_nil] at q1
    simp [code, Tryz.f21, hr, hp5, hp7, hp9, q1, k, hd0, z0, z1, z2, z3, z4, z5, z6]
    try simp [rws]
  ) Tryz.f21 Tryz.results21)
end Go.Proofs.YtgkhojgmpojodaaGreatDoor
