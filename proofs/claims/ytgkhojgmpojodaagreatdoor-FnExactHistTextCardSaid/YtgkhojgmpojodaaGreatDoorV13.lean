/- Numbers into texts, by the library. -/
import Derived.Test.YtgkhojgmpojodaaGreatDoorV9
namespace Go.Proofs.YtgkhojgmpojodaaGreatDoor
open Go Go.Pm Go.Proofs
set_option linter.unusedVariables false
set_option linter.unusedSimpArgs false
set_option maxRecDepth 100000
set_option maxHeartbeats 4000000
theorem p230 (u : Nat) (h1 : 1 ≤ u) (h2 : u < 18446744073709551616) : phi C0 (lim C0) 230 [.pv false (.sc (.int .u64 (u : Nat)))] [] = some ((.pv false (.sc (.int .i64 (((digN u).length : Int))))), []) := by
  have g1 : (1 : Int) ≤ u := by omega
  have g2 : (u : Int) < 18446744073709551616 := by omega
  exact phi_ext (C := C0) (by simp [C0, ext0, extN, g1, g2])
theorem p231 (u e : Nat) (rows : List (List PV)) (ns : List Int) (hb : bytesOf rows = some ns) (hok : byteOk ns = true) (hl : (digN u).length ≤ rows.length) (h2 : u < 18446744073709551616) : phi C0 (lim C0) 231 [.ref 0 0 (digN u).length, .pv false (.sc (.int .u64 (u : Nat)))] [(0, .row .io e 1 rows)] = some (.tu [], [(0, .row .io e 1 (nums .u8 (digN u) ++ rows.drop (digN u).length))]) := by
  have g1 : (0 : Int) ≤ u := by omega
  have g2 : (u : Int) < 18446744073709551616 := by omega
  exact phi_ext (C := C0) (by simp [C0, ext0, extF, hb, hok, hl, g1, g2])
theorem wrap_u64 {a : Int} (h : 0 ≤ a ∧ a < 18446744073709551616) : IntKind.u64.wrap a = a := by
  have : IntKind.u64.wrap a = a % 18446744073709551616 := by first | rfl | simp [IntKind.wrap]
  rw [this]
  omega
theorem digs_is {u : Nat} (h : u < 100) : digs (u : Int) = digN u := by
  unfold digs
  rw [digN]
  by_cases h1 : u < 10
  · rw [if_pos (by omega), if_pos h1]
  · rw [if_neg (by omega), if_neg h1, digN, if_pos (by omega)]
    rfl
theorem bytes_back {l : List Int} (h : byteOk l = true) : (strOfNums l).data.toList.map (fun (c : UInt8) => [PV.sc (.int .u8 c.toNat)]) = nums .u8 l := by
  have e : (strOfNums l).data.toList = l.map toU := by rw [← ByteArray.toList_eq, str_list]
  rw [e, List.map_map]
  refine List.map_congr_left fun x hx => ?_
  have := toU_nat (byteOk_mem h x hx)
  simp [this]
theorem p198 (u : Nat) (acc : List Int) (hu : u ≤ 4611686018427387904) (ha : acc.length ≤ 70368744177664) : phi C0 (lim C0) 198 [.ref 0 0 acc.length, .pv false (.sc (.int .u64 (u : Nat))), (.pv false (.sc (.int .i64 10)))] [(0, .row .io 5 1 (nums .u8 acc))] = some (.ref 16 0 (acc.length + (digN u).length), [(16, .row .io 5 1 (nums .u8 (acc ++ digN u)))]) := call0 Tryz.func198 (by kernel_rfl) ((show ∀ fn : Func, fn.results = #[.tmp 6] → lim C0 198 fn [.c (code Tryz.f198)] ⟨_, _⟩ = _ from fun fn hr => by
  have hw : IntKind.i64.wrap (u : Int) = u := wrap_id' (by omega)
  simp [code, Tryz.f198, hr]
  (first | refine ifL_cases (fun h => ?_) (fun h => ?_) | refine gI_cases' (fun h => ?_) (fun h => ?_) | refine gI_cases (fun h => ?_) (fun h => ?_) | refine dI_cases' (fun h => ?_) (fun h => ?_) | refine dI_cases (fun h => ?_) (fun h => ?_)) <;> first | replace h := of_decide_eq_true h | replace h := of_decide_eq_false h | skip
  · have q := p229 (u : Int) (by omega) (by omega)
    have q4 := digs_ok (n := (u : Int)) (by omega) (by omega)
    have e : digs (u : Int) = digN u := digs_is (by omega)
    have q5 : (strOfNums (digs (u : Int))).size = (digs (u : Int)).length := strOfNums_size _
    have q6 := bytes_back q4
    rw [e] at q q5 q6
    have hd := digN_le (n := u) (by omega)
    generalize digN u = d at *
    (simp [q, q5, q6, hw, hr]); repeat (simp (disch := omega) only [room_ok, max_ok', spare_no, le_ok', and_self, true_and, and_true, if_true, if_false, ite_true, ite_false]; try simp [q, q5, q6, hw, hr])
  · have q := p230 u (by omega) (by omega)
    have hd := digN_le (n := u) (by omega)
    have hd2 : ((digN u).length : Int) ≤ 24 := by omega
    have q2 := p231 u 231 (List.replicate 24 [.sc (.int .u8 0)]) (List.replicate 24 0) (by rfl) (by rfl) (by simp; omega) (by omega)
    simp only [List.replicate] at q2
    have e2 : ∀ r : List (List PV), ((nums .u8 (digN u)) ++ r).take (digN u).length = nums .u8 (digN u) := fun r => List.take_left' (by simp)
    generalize digN u = d at *
    (simp [q, q2, hd2, e2, hw, hr]); repeat (simp (disch := omega) only [room_ok, max_ok', spare_no, le_ok', and_self, true_and, and_true, if_true, if_false, ite_true, ite_false]; try simp [q, q2, hd2, e2, hw, hr])
  ) Tryz.f198 Tryz.results198)
theorem wrap_u64n {m : Nat} (h : 0 < m) (h2 : m ≤ 4611686018427387904) : IntKind.u64.wrap (-(m : Int)) = 18446744073709551616 - m := by
  have : IntKind.u64.wrap (-(m : Int)) = (-(m : Int)) % 18446744073709551616 := by first | rfl | simp [IntKind.wrap]
  rw [this]
  omega
theorem p134 (i : Int) (acc : List Int) (h0 : -4611686018427387904 ≤ i) (h1 : i ≤ 4611686018427387904) (ha : acc.length ≤ 35184372088832) : phi C0 (lim C0) 134 [.ref 0 0 acc.length, (.pv false (.sc (.int .i64 i))), (.pv false (.sc (.int .i64 10)))] [(0, .row .io 5 1 (nums .u8 acc))] = some (.ref 16 0 (acc.length + (digT i).length), [(16, .row .io 5 1 (nums .u8 (acc ++ digT i)))]) := call0 Tryz.func134 (by kernel_rfl) ((show ∀ fn : Func, fn.results = #[.tmp 6] → lim C0 134 fn [.c (code Tryz.f134)] ⟨_, _⟩ = _ from fun fn hr => by
  by_cases hn : i < 0
  · obtain ⟨m, rfl⟩ : ∃ m : Nat, i = -(m : Int) := ⟨(-i).toNat, by omega⟩
    have hm : 0 < m := by omega
    have w1 := wrap_u64n hm (by omega)
    have e1 : digT (-(m : Int)) = 45 :: digN m := by unfold digT; rw [if_pos hn]; congr 2; omega
    have e2 : Op.unary .neg (.int .u64 (18446744073709551616 - (m : Int))) = Sem.pure (.int .u64 (m : Int)) := by
      show Sem.pure _ = _
      have : IntKind.u64.wrap (0 - (18446744073709551616 - (m : Int))) = m := by
        have : IntKind.u64.wrap (0 - (18446744073709551616 - (m : Int))) = (0 - (18446744073709551616 - (m : Int))) % 18446744073709551616 := by first | rfl | simp [IntKind.wrap]
        rw [this]; omega
      rw [this]
    have q := p198 m (acc ++ [45]) (by omega) (by simp; omega)
    rw [e1]
    have hd := digN_le (n := m) (by omega)
    simp only [List.length_append, List.length_cons, List.length_nil] at q
    generalize digN m = d at *
    (simp [code, Tryz.f134, hr, hm, w1, e2, q]); repeat (simp (disch := omega) only [room_ok, max_ok', spare_no, le_ok', and_self, true_and, and_true, if_true, if_false, ite_true, ite_false]; try simp [code, Tryz.f134, hr, hm, w1, e2, q])
    omega
  · obtain ⟨u, rfl⟩ : ∃ u : Nat, i = (u : Int) := ⟨i.toNat, by omega⟩
    have w1 := wrap_u64 (a := (u : Int)) (by omega)
    have e1 : digT (u : Int) = digN u := by unfold digT; rw [if_neg hn]; congr 1
    have q := p198 u acc (by omega) (by omega)
    rw [e1]
    (simp [code, Tryz.f134, hr, hn, w1, q]); repeat (simp (disch := omega) only [room_ok, max_ok', spare_no, le_ok', and_self, true_and, and_true, if_true, if_false, ite_true, ite_false]; try simp [code, Tryz.f134, hr, hn, w1, q])
  ) Tryz.f134 Tryz.results134)
theorem p65 (i : Int) (acc : List Int) (h0 : -4611686018427387904 ≤ i) (h1 : i ≤ 4611686018427387904) (ha : acc.length ≤ 35184372088832) : phi C0 (lim C0) 65 [.ref 0 0 acc.length, (.pv false (.sc (.int .i64 i))), (.pv false (.sc (.int .i64 10)))] [(0, .row .io 5 1 (nums .u8 acc))] = some (.ref 16 0 (acc.length + (digT i).length), [(16, .row .io 5 1 (nums .u8 (acc ++ digT i)))]) := call0 Tryz.func65 (by kernel_rfl) ((show ∀ fn : Func, fn.results = #[.tmp 6] → lim C0 65 fn [.c (code Tryz.f65)] ⟨_, _⟩ = _ from fun fn hr => by
  have q := p134 i acc h0 h1 ha
  (simp [code, Tryz.f65, hr, q]); repeat (simp (disch := omega) only [room_ok, max_ok', spare_no, le_ok', and_self, true_and, and_true, if_true, if_false, ite_true, ite_false]; try simp [code, Tryz.f65, hr, q])
  ) Tryz.f65 Tryz.results65)
def boolT (b : Bool) : List Int := if b then [116, 114, 117, 101] else [102, 97, 108, 115, 101]
theorem p197 (b : Bool) (acc : List Int) (ha : acc.length ≤ 35184372088832) : phi C0 (lim C0) 197 [.ref 0 0 acc.length, (.pv false (.sc (.bool b)))] [(0, .row .io 5 1 (nums .u8 acc))] = some (.ref 16 0 (acc.length + (boolT b).length), [(16, .row .io 5 1 (nums .u8 (acc ++ boolT b)))]) := call0 Tryz.func197 (by kernel_rfl) ((show ∀ fn : Func, fn.results = #[.tmp 4] → lim C0 197 fn [.c (code Tryz.f197)] ⟨_, _⟩ = _ from fun fn hr => by
  cases b
  · (simp [code, Tryz.f197, hr, boolT]); repeat (simp (disch := omega) only [room_ok, max_ok', spare_no, le_ok', and_self, true_and, and_true, if_true, if_false, ite_true, ite_false]; try simp [code, Tryz.f197, hr, boolT])
    simp [rws]
  · (simp [code, Tryz.f197, hr, boolT]); repeat (simp (disch := omega) only [room_ok, max_ok', spare_no, le_ok', and_self, true_and, and_true, if_true, if_false, ite_true, ite_false]; try simp [code, Tryz.f197, hr, boolT])
    simp [rws]
  ) Tryz.f197 Tryz.results197)
theorem p133 (b : Bool) (acc : List Int) (ha : acc.length ≤ 35184372088832) : phi C0 (lim C0) 133 [.ref 0 0 acc.length, (.pv false (.sc (.bool b)))] [(0, .row .io 5 1 (nums .u8 acc))] = some (.ref 16 0 (acc.length + (boolT b).length), [(16, .row .io 5 1 (nums .u8 (acc ++ boolT b)))]) := call0 Tryz.func133 (by kernel_rfl) ((show ∀ fn : Func, fn.results = #[.tmp 4] → lim C0 133 fn [.c (code Tryz.f133)] ⟨_, _⟩ = _ from fun fn hr => by
  have q := p197 b acc ha
  (simp [code, Tryz.f133, hr, q]); repeat (simp (disch := omega) only [room_ok, max_ok', spare_no, le_ok', and_self, true_and, and_true, if_true, if_false, ite_true, ite_false]; try simp [code, Tryz.f133, hr, q])
  ) Tryz.f133 Tryz.results133)
end Go.Proofs.YtgkhojgmpojodaaGreatDoor
