/- Turned, by the program. -/
import Derived.Test.YtopoaemlbnkhgaaG16
namespace Go.Proofs.Ytopoaemlbnkhgaa
open Go Go.Pm Go.Proofs
set_option linter.unusedVariables false
set_option linter.unusedSimpArgs false
theorem edP_inj (a b : Ed) (h : edP a = edP b) : a = b := by
  simp at h
  exact Prod.ext h.1 h.2
theorem numP_inj (a b : Int) (h : numP .i64 a = numP .i64 b) : a = b := by simpa using h
theorem pSortE (l : List Ed) (hl : l.length ≤ 1048576) : phi C0 (lim C0) 71 [.ref 0 0 l.length, .pv true (.cl 72 [])] [(0, .row .io 42 2 (eds l))] = some (.tu [], [(0, .row .io 42 2 (eds (sortE l)))]) :=
  phi_ext (C := C0) (extRow_at edP_inj l (by omega))
theorem pSortE_nl : phi C0 (lim C0) 71 [.nl, .pv true (.cl 72 [])] [] = some (.tu [], []) :=
  phi_ext (C := C0) extRow_nl
theorem pSortI (l : List Int) (hl : l.length ≤ 1048576) : phi C0 (lim C0) 77 [.ref 0 0 l.length] [(0, .row .io 3 1 (nums .i64 l))] = some (.tu [], [(0, .row .io 3 1 (nums .i64 (sortI l)))]) :=
  phi_ext (C := C0) (extRow_at numP_inj l (by omega))
theorem pCptI (l : List Int) (hl : l.length ≤ 1048576) : phi C0 (lim C0) 78 [.ref 0 0 l.length] [(0, .row .io 3 1 (nums .i64 l))] = some (.ref 0 0 (cptI l).length, [(0, .row .io 3 1 (nums .i64 (cptI l)))]) :=
  phi_ext (C := C0) (extRow_at numP_inj l (by omega))
def swE (e : Ed) : Ed := (e.2, e.1)
def turnE (l : List Ed) : List Ed := l.map swE
theorem less_trans {a b c : Ed} (h : edLess a b = true) (h' : edLess b c = true) : edLess a c = true := by
  simp [edLess] at *
  omega
theorem gChk_all {n : Int} : ∀ {l : List Ed} {q : Ed}, gChk n (some q) l = true → (∀ e ∈ l, edLess q e = true) ∧ l.Pairwise (fun a b => edLess a b = true)
  | [], q, _ => ⟨fun e h => (by cases h), .nil⟩
  | e :: l, q, h => by
    simp only [gChk, Bool.and_eq_true] at h
    obtain ⟨⟨_, h1⟩, h2⟩ := h
    obtain ⟨i1, i2⟩ := gChk_all h2
    refine ⟨fun x hx => ?_, .cons i1 i2⟩
    rcases List.mem_cons.1 hx with rfl | hx
    · exact h1
    · exact less_trans h1 (i1 x hx)
theorem gChk_pair {n : Int} {l : List Ed} (h : gChk n none l = true) : l.Pairwise (fun a b => edLess a b = true) := by
  cases l with
  | nil => exact .nil
  | cons e l =>
    simp only [gChk, Bool.and_eq_true] at h
    obtain ⟨i1, i2⟩ := gChk_all h.2
    exact .cons i1 i2
set_option maxRecDepth 100000 in
set_option maxHeartbeats 4000000 in
theorem e42_no (fn : Func) (hr : fn.results = #[.cell 2 34, .tmp 3]) (b : Bool) (n : Int) (l : List Ed) (hl : l.length ≤ 1048576) (hg : gOk n l = false) : lim C0 42 fn [.c (code Try.f42)] ⟨number [grTV b n l] 0, []⟩ = some (.tu [.ag [(.pv false (.sc (.int .i64 0))), .ref 16 0 0], (.pv false (.sc (.bool false)))], [(16, .row .own 42 2 [])]) := by
  have p1 := p59
  simp only [grTV] at p1
  simp [code, Try.f42, hr, p1, hg, hl]
theorem p42_no (b : Bool) (n : Int) (l : List Ed) (hl : l.length ≤ 1048576) (hg : gOk n l = false) : phi C0 (lim C0) 42 [grTV b n l] [] = some (.tu [.ag [(.pv false (.sc (.int .i64 0))), .ref 16 0 0], (.pv false (.sc (.bool false)))], [(16, .row .own 42 2 [])]) := call0 Try.func42 (by kernel_rfl) (e42_no Try.f42 Try.results42 b n l hl hg)
set_option maxRecDepth 100000 in
set_option maxHeartbeats 4000000 in
theorem e42 (fn : Func) (hr : fn.results = #[.cell 2 34, .tmp 3]) (b : Bool) (n : Nat) (l : List Ed) (hn : n ≤ 20) (hl : l.length ≤ 400) (hg : gOk n l = true) : lim C0 42 fn [.c (code Try.f42)] ⟨number [grTV b n l] 0, []⟩ = some (.tu [.ag [(.pv false (.sc (.int .i64 n))), .ref 16 0 l.length], (.pv false (.sc (.bool true)))], [(16, .row .own 42 2 (eds (sortE (turnE l))))]) := by
  have p1 := fun b => p59 b n l (by omega)
  simp only [grTV] at p1
  simp [code, Try.f42, hr, p1, hg, hl]
  refine (loop_to (s0 := ?s1) (fun x => l.length - x.1) (fun x => [(17, (.pv false (.sc (.int .i64 ((x.1 : Nat))))))]) (fun x => [(16, .box [(.pv false (.sc (.int .i64 ((n : Nat))))), .pv b (.sl (eds l))]), (18, .box [(.pv false (.sc (.int .i64 0))), .nl]), (20, .box [(.pv false (.sc (.int .i64 ((n : Nat))))), slT 22 x.2])] ++ slH 22 42 2 edP x.2) (fun x K => K [(17, (.pv false (.sc (.int .i64 l.length))))] ([(16, .box [(.pv false (.sc (.int .i64 ((n : Nat))))), .pv b (.sl (eds l))]), (18, .box [(.pv false (.sc (.int .i64 0))), .nl]), (20, .box [(.pv false (.sc (.int .i64 ((n : Nat))))), slT 22 (turnE l)])] ++ slH 22 42 2 edP (turnE l))) (fun x => x.1 ≤ l.length ∧ Hid (x.2 = turnE (l.take x.1))) ((0 : Nat), ([] : List Ed)) ?hc1 ?h01 ?hs1 ?step1).trans ?r1
  case hc1 => simp; rfl
  case h01 => first | (simp; done) | (simp [*]; done) | exact ⟨by simp, ⟨rfl⟩⟩ | grind | (simp; omega)
  case hs1 => first | (simp; done) | (simp [*]; done)
  case r1 =>
    have hlen : (turnE l).length = l.length := by simp [turnE]
    have q1 := pSortE (turnE l) (by omega)
    have q2 := pSortE_nl
    have h3 : (sortE (turnE l)).length = l.length := by simp [sortE, turnE]
    rcases hk : turnE l with _ | ⟨a0, t⟩
    · rw [hk] at hlen h3 q1
      have : l = [] := List.eq_nil_of_length_eq_zero (by simpa using hlen.symm)
      subst this
      simp [hr, sortE, q2]
    · rw [hk] at hlen h3 q1
      simp at hlen
      simp only [List.length_cons, hlen] at q1
      simp [hr, hlen, q1]
  rintro k ⟨i, acc⟩ ⟨hi, ha⟩ ih
  have hlen := congrArg List.length ha.out
  simp [turnE] at hlen
  simp at hi
  have hts : ∀ h : i < l.length, Hid (turnE (l.take (i + 1)) = acc ++ [swE l[i]]) := fun h => ⟨by have h' : acc = turnE (l.take i) := ha.out; rw [take_at h, h', turnE, List.map_append]; rfl⟩
  have g3 : (acc.length + 1) * 16 ≤ Pm.roomBytes := by unfold Pm.roomBytes; omega
  have g4 : acc.length + 1 ≤ 9223372036854775807 := by omega
  clear hlen
  rcases acc with _ | ⟨a0, acc⟩
  all_goals simp
  all_goals simp at g3 g4
  · (first | refine ifL_cases (fun h => ?_) (fun h => ?_) | refine gI_cases' (fun h => ?_) (fun h => ?_) | refine gI_cases (fun h => ?_) (fun h => ?_) | refine dI_cases' (fun h => ?_) (fun h => ?_) | refine dI_cases (fun h => ?_) (fun h => ?_)) <;> first | replace h := of_decide_eq_true h | replace h := of_decide_eq_false h | skip
    · have hx := hts h
      simp [*]
      refine (ih.out (i + 1, [swE l[i]]) _ ?_ ?_ ?_).trans ?_
      · simp; omega
      · exact ⟨by simp; omega, ⟨hx.out.symm⟩⟩
      · simp [swE]
        try simp (disch := omega) only [wrap_id']
      · rfl
    · have e : i = l.length := by omega
      subst e
      have hx := ha.out
      simp at hx
      have hx2 : turnE l = [] := by simpa using hx.symm
      rw [hx2]
      simp
  · (first | refine ifL_cases (fun h => ?_) (fun h => ?_) | refine gI_cases' (fun h => ?_) (fun h => ?_) | refine gI_cases (fun h => ?_) (fun h => ?_) | refine dI_cases' (fun h => ?_) (fun h => ?_) | refine dI_cases (fun h => ?_) (fun h => ?_)) <;> first | replace h := of_decide_eq_true h | replace h := of_decide_eq_false h | skip
    · have hx := hts h
      simp [*]
      refine (ih.out (i + 1, a0 :: (acc ++ [swE l[i]])) _ ?_ ?_ ?_).trans ?_
      · simp; omega
      · exact ⟨by simp; omega, ⟨hx.out.symm⟩⟩
      · simp [swE]
        try simp (disch := omega) only [wrap_id']
      · rfl
    · have e : i = l.length := by omega
      subst e
      have hx := ha.out
      simp at hx
      simp [← hx]
theorem p42 (b : Bool) (n : Nat) (l : List Ed) (hn : n ≤ 20) (hl : l.length ≤ 400) (hg : gOk n l = true) : phi C0 (lim C0) 42 [grTV b n l] [] = some (.tu [.ag [(.pv false (.sc (.int .i64 n))), .ref 16 0 l.length], (.pv false (.sc (.bool true)))], [(16, .row .own 42 2 (eds (sortE (turnE l))))]) := call0 Try.func42 (by kernel_rfl) (e42 Try.f42 Try.results42 b n l hn hl hg)
end Go.Proofs.Ytopoaemlbnkhgaa
