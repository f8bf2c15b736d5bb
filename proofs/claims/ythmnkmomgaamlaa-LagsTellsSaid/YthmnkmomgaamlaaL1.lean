/- Walks over Right and Ints of the reference of layer 15, and small functions of the statements. Conditions stand in each theorem. -/
import Derived.Test.YthmnkmomgaamlaaR1
import Derived.Test.YthmnkmomgaamlaaLa
namespace Go.Proofs.Ythmnkmomgaamlaa
open Go.RowKit
set_option linter.unusedVariables false

theorem okL_no2 {n f t a m : Int} (h : okL n (f, t, a, m) = false) : decide (f < 0) = true ∨ (decide (f < 0) = false ∧ (decide (n ≤ f) = true ∨ (decide (n ≤ f) = false ∧ (decide (t < 0) = true ∨ (decide (t < 0) = false ∧ (decide (n ≤ t) = true ∨ (decide (n ≤ t) = false ∧ ((f == t) = true ∨ ((f == t) = false ∧ (decide (a < 0) = true ∨ (decide (a < 0) = false ∧ (decide (1048576 < a) = true ∨ (decide (1048576 < a) = false ∧ (decide (1048576 < m) = true ∨ (decide (1048576 < m) = false ∧ (decide (m < a) = true ∧ (m != -1) = true)))))))))))))))) := by
  simp only [okL, decide_eq_false_iff_not, decide_eq_true_eq, beq_iff_eq, bne_iff_ne, ne_eq, beq_eq_false_iff_ne] at h ⊢
  omega
theorem okL_yes2 {n f t a m : Int} (h : okL n (f, t, a, m) = true) : decide (f < 0) = false ∧ decide (n ≤ f) = false ∧ decide (t < 0) = false ∧ decide (n ≤ t) = false ∧ (f == t) = false ∧ decide (a < 0) = false ∧ decide (1048576 < a) = false ∧ decide (1048576 < m) = false ∧ (decide (m < a) = false ∨ (decide (m < a) = true ∧ (m != -1) = false)) := by
  simp only [okL, decide_eq_false_iff_not, decide_eq_true_eq, ne_eq, beq_eq_false_iff_ne, bne_eq_false_iff_eq] at h ⊢
  omega

set_option maxRecDepth 100000 in
set_option maxHeartbeats 1000000 in
theorem rright_any (m : Int) (A : Option Addr) (n cap : Nat) (l : List Lg) (w : World) (hl : RdL w w.heap.size A n cap l) :
  Calls Try.prog 17 #[.int .i64 m, .slice A n cap] w fun e w' => e = .returned (.bool (rightL m l)) ∧ Below w.heap.size w w' := by
  have hcaps := hl.caps
  have hlen := hl.len
  cases hs : szL m l
  · have e : rightL m l = false := by rw [rightL, hs]; rfl
    rw [e]
    have hd : decide (m < 1) = true ∨ (decide (m < 1) = false ∧ (decide (200 < m) = true ∨ (decide (200 < m) = false ∧ decide ((2000 : Int) < (n : Int)) = true))) := by
      simp only [szL, hlen, decide_eq_false_iff_not, decide_eq_true_eq] at hs ⊢
      omega
    clear e hs
    rcases hd with h1 | ⟨h1, h2 | ⟨h2, h3⟩⟩
    all_goals
      go_enter Try.func17, Try.ntmps17
      go_wp2
      go_ret
      exact ⟨rfl, Below.refl _ _⟩
  · have hd : decide (m < 1) = false ∧ decide (200 < m) = false ∧ decide ((2000 : Int) < (n : Int)) = false := by
      simp only [szL, hlen, decide_eq_false_iff_not, decide_eq_true_eq] at hs ⊢
      omega
    obtain ⟨d1, d2, d3⟩ := hd
    have HY : RowKit.Hid ((∀ k, k < n → okL m (l.getD k (0, 0, 0, 0)) = true) → rightL m l = true) := Lib.hid fun h => by
      rw [rightL, hs, Bool.true_and, List.all_eq_true]
      intro x hx
      obtain ⟨k, hk, rfl⟩ := List.mem_iff_getElem.1 hx
      have := h k (by omega)
      rwa [List.getD, List.getElem?_eq_getElem hk] at this
    have HN : RowKit.Hid (∀ k x, l[k]? = some x → okL m x = false → rightL m l = false) := Lib.hid fun k x hx h => by
      rw [rightL, hs, Bool.true_and, List.all_eq_false]
      exact ⟨x, List.mem_of_getElem? hx, by simp [h]⟩
    clear hs
    generalize rightL m l = RR at *
    go_enter Try.func17, Try.ntmps17
    go_wp2
    go_loopg [5] n (fun gk i wr => ∃ k : Nat, k ≤ n ∧ gk = n - k ∧ i = .int .i64 k ∧ (∀ j, j < k → okL m (l.getD j (0, 0, 0, 0)) = true) ∧ Below w.heap.size w wr)
    case atStart => exact ⟨0, Nat.zero_le _, rfl, rfl, (fun j h => absurd h (by omega)), Below.refl _ _⟩
    case round =>
      obtain ⟨k, hk, rfl, rfl, hall, hb⟩ := hrel
      have Hall := Lib.hid hall
      clear hall
      by_cases hlt : k < n
      · obtain ⟨b, off, x, y, z, u, rfl, hbB, hx, c0, c1, c2, c3⟩ := (hl.below (flat_lasts _) hb (Nat.le_refl _) (Nat.le_refl _)).atL hlt
        have hki : (k : Int) < (n : Int) := by omega
        have hk0 : (0 : Int) ≤ (k : Int) := by omega
        have hsz := hb.size
        have Hx := Lib.hid hx
        clear hx
        cases ho : okL m (x, y, z, u)
        · have hsr := HN.out k _ Hx.out ho
          have Hsr := Lib.hid hsr
          have hd := okL_no2 ho
          clear hsr ho
          rcases hd with e1 | ⟨e1, e2 | ⟨e2, e3 | ⟨e3, e4 | ⟨e4, e5 | ⟨e5, e6 | ⟨e6, e7 | ⟨e7, e8 | ⟨e8, e9, e10⟩⟩⟩⟩⟩⟩⟩⟩
          all_goals
            go_wp2
            go_ret
            exact ⟨by rw [Hsr.out]; rfl, hb.alloc hsz _⟩
        · have Ho := Lib.hid ho
          obtain ⟨e1, e2, e3, e4, e5, e6, e7, e8, e9⟩ := okL_yes2 ho
          clear ho
          rcases e9 with e9 | ⟨e9, e10⟩
          all_goals
            go_wp2
            go_roundg (n - (k + 1))
            case rel => exact ⟨k + 1, by omega, rfl, by go_num, (fun j hj => by
              by_cases e : j = k
              · subst e; rw [List.getD, Hx.out]; exact Ho.out
              · exact Hall.out j (by omega)), hb.alloc hsz _⟩
            case measure => omega
      · have e : k = n := by omega
        subst e
        have hsr := HY.out Hall.out
        have Hsr := Lib.hid hsr
        clear hsr
        go_wp2
        go_ret
        exact ⟨by rw [Hsr.out]; rfl, hb⟩

def SameP (w : World) (b : Bool) (e : Ending) (w' : World) : Prop := e = .returned (.bool b) ∧ ∃ q, w' = w.drewN q
theorem ints_any (A B : Option Addr) (n m cap capb : Nat) (a b : List Int) (w : World) (ha : RdI w w.heap.size A n cap a) (hb : RdI w w.heap.size B m capb b) :
  Calls Try.prog 13 #[.slice A n cap, .slice B m capb] w (SameP w (decide (a = b))) := by
  have h1 := ha.caps
  have h2 := hb.caps
  have la := ha.len
  have lb := hb.len
  by_cases hnm : n = m
  · subst hnm
    have hnn : ((n : Int) != (n : Int)) = false := by simp
    have La := Lib.hid la; have Lb := Lib.hid lb; clear la lb
    go_enter Try.func13, Try.ntmps13
    go_wp2
    go_loopg [5] n (fun gk i wr => ∃ k : Nat, k ≤ n ∧ gk = n - k ∧ i = .int .i64 k ∧ (∀ j, j < k → a[j]? = b[j]?) ∧ ∃ q, wr = w.drewN q)
    case atStart => exact ⟨0, Nat.zero_le _, rfl, rfl, (fun j h => absurd h (by omega)), dr_zero w⟩
    case round =>
      obtain ⟨k, hk, rfl, rfl, hall, hq⟩ := hrel
      have Hall := Lib.hid hall; have Hq := Lib.hid hq; clear hall hq
      by_cases hlt : k < n
      · obtain ⟨ba, oa, x, rfl, hba, hx, c0⟩ := ha.atI hlt
        obtain ⟨bb, ob, y, rfl, hbb, hy, d0⟩ := hb.atI hlt
        have hki : (k : Int) < (n : Int) := by omega
        have hk0 : (0 : Int) ≤ (k : Int) := by omega
        have c0' := (dr_cell Hq.out ⟨ba, oa + k, none⟩).trans c0
        have d0' := (dr_cell Hq.out ⟨bb, ob + k, none⟩).trans d0
        have Hx := Lib.hid hx; have Hy := Lib.hid hy
        clear hx hy
        by_cases hxy : x = y
        · subst hxy
          have hne : (x != x) = false := by simp
          go_wp2_with fail
          go_quiet (fail)
          go_wp2
          go_roundg (n - (k + 1))
          case rel => exact ⟨k + 1, by omega, rfl, by go_num, (fun j hj => by
            by_cases e : j = k
            · subst e; rw [Hx.out, Hy.out]
            · exact Hall.out j (by omega)), dr_more Hq.out _⟩
          case measure => omega
        · have hne : (x != y) = true := by simpa using hxy
          have hF : decide (a = b) = false := by
            rw [decide_eq_false_iff_not]; intro h
            have := Hx.out; rw [h, Hy.out] at this
            exact hxy (Option.some.inj this).symm
          have HF := Lib.hid hF; clear hF
          go_wp2_with fail
          go_quiet (fail)
          go_wp2
          go_ret
          exact ⟨by rw [HF.out]; rfl, dr_more Hq.out _⟩
      · have e : k = n := by omega
        subst e
        have hT : decide (a = b) = true := by
          rw [decide_eq_true_iff]
          apply List.ext_getElem?
          intro j
          by_cases hj : j < k
          · exact Hall.out j hj
          · rw [List.getElem?_eq_none (by rw [La.out]; omega), List.getElem?_eq_none (by rw [Lb.out]; omega)]
        have HT := Lib.hid hT; clear hT
        go_wp2
        go_ret
        exact ⟨by rw [HT.out]; rfl, Hq.out⟩
  · have hnn : ((n : Int) != (m : Int)) = true := by simp; omega
    have hF : decide (a = b) = false := by
      rw [decide_eq_false_iff_not]; intro h
      rw [h, lb] at la; omega
    rw [hF]
    clear hF la lb
    go_enter Try.func13, Try.ntmps13
    go_wp2
    go_ret
    exact ⟨rfl, dr_zero w⟩


def boundF (m : Int) (l : List Lg) : Bool := decide ((1 ≤ m ∧ m ≤ 30) ∧ l.length ≤ 60) && rightL m l
theorem bounded_any (m : Int) (A : Option Addr) (n cap : Nat) (l : List Lg) (w : World) (hl : RdL w w.heap.size A n cap l) :
  Calls Try.prog 21 #[.int .i64 m, .slice A n cap] w fun e w' => e = .returned (.bool (boundF m l)) ∧ Below w.heap.size w w' := by
  have hlen := hl.len
  by_cases h : (1 ≤ m ∧ m ≤ 30) ∧ n ≤ 60
  · have e : boundF m l = rightL m l := by rw [boundF, hlen, decide_eq_true h, Bool.true_and]
    rw [e]
    have Hr := Lib.hid (fun w h => rright_any m A n cap l w h)
    have hd1 : decide (1 ≤ m) = true := by simpa using h.1.1
    have hd2 : decide (m ≤ 30) = true := by simpa using h.1.2
    have hd3 : decide ((n : Int) ≤ 60) = true := by simp; omega
    clear e h
    generalize rightL m l = RR at *
    go_enter Try.func21, Try.ntmps21
    go_wp2_with fail
    refine (Hr.out _ hl).mono ?_
    rintro e w1 ⟨rfl, hb1⟩
    go_wp2
    go_ret
    exact ⟨rfl, hb1⟩
  · have e : boundF m l = false := by rw [boundF, hlen, decide_eq_false h, Bool.false_and]
    rw [e]
    have hd : decide (1 ≤ m) = false ∨ (decide (1 ≤ m) = true ∧ (decide (m ≤ 30) = false ∨ (decide (m ≤ 30) = true ∧ decide ((n : Int) ≤ 60) = false))) := by
      simp only [decide_eq_true_eq, decide_eq_false_iff_not]; omega
    clear e h
    rcases hd with h1 | ⟨h1, h2 | ⟨h2, h3⟩⟩
    all_goals
      go_enter Try.func21, Try.ntmps21
      go_wp2
      go_ret
      exact ⟨rfl, Below.refl _ _⟩
def SomePost (w : World) (e : Ending) (w' : World) : Prop := ∃ g, e = .returned (.slice (some ⟨g, 0, none⟩) 2 2) ∧ RdL w' w'.heap.size (some ⟨g, 0, none⟩) 2 2 [(0, 1, 5, 9), (1, 2, 3, -1)] ∧ Below w.heap.size w w'
theorem some_any (w : World) : Calls Try.prog 22 #[] w (SomePost w) := by
  have h := Rd.litG lSized (w := w) 47 [(0, 1, 5, 9), (1, 2, 3, -1)] #[.int .i64 0, .int .i64 1, .int .i64 5, .int .i64 9, .int .i64 1, .int .i64 2, .int .i64 3, .int .i64 (-1)] 2 w.heap.size rfl rfl rfl (by omega)
  have hb := (Below.refl w.heap.size w).alloc (Nat.le_refl _) (.cells #[.int .i64 0, .int .i64 1, .int .i64 5, .int .i64 9, .int .i64 1, .int .i64 2, .int .i64 3, .int .i64 (-1)] 47)
  go_enter Try.func22, Try.ntmps22
  go_wp2
  go_ret
  exact ⟨w.heap.size, rfl, h, hb⟩
end Go.Proofs.Ythmnkmomgaamlaa
