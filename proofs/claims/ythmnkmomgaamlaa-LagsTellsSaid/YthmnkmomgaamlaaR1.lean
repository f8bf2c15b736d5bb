/- Walk over Right of package lags. Conditions stand in the theorem. -/
import Derived.Test.YthmnkmomgaamlaaLm
namespace Go.Proofs.Ythmnkmomgaamlaa
open Go.RowKit
set_option linter.unusedVariables false

theorem okL_no {n f t a m : Int} (h : okL n (f, t, a, m) = false) : decide (f < 0) = true ∨ (decide (f < 0) = false ∧ (decide (n ≤ f) = true ∨ (decide (n ≤ f) = false ∧ (decide (t < 0) = true ∨ (decide (t < 0) = false ∧ (decide (n ≤ t) = true ∨ (decide (n ≤ t) = false ∧ ((f == t) = true ∨ ((f == t) = false ∧ (decide (a < 0) = true ∨ (decide (a < 0) = false ∧ (decide (1048576 < a) = true ∨ (decide (1048576 < a) = false ∧ (decide (1048576 < m) = true ∨ (decide (1048576 < m) = false ∧ ((m != -1) = true ∧ decide (m < a) = true)))))))))))))))) := by
  simp only [okL, decide_eq_false_iff_not, decide_eq_true_eq, beq_iff_eq, bne_iff_ne, ne_eq, beq_eq_false_iff_ne] at h ⊢
  omega
theorem okL_yes {n f t a m : Int} (h : okL n (f, t, a, m) = true) : decide (f < 0) = false ∧ decide (n ≤ f) = false ∧ decide (t < 0) = false ∧ decide (n ≤ t) = false ∧ (f == t) = false ∧ decide (a < 0) = false ∧ decide (1048576 < a) = false ∧ decide (1048576 < m) = false ∧ ((m != -1) = false ∨ ((m != -1) = true ∧ decide (m < a) = false)) := by
  simp only [okL, decide_eq_false_iff_not, decide_eq_true_eq, bne_iff_ne, ne_eq, beq_eq_false_iff_ne, bne_eq_false_iff_eq] at h ⊢
  omega

set_option maxRecDepth 100000 in
set_option maxHeartbeats 1000000 in
theorem right_any (m : Int) (A : Option Addr) (n cap : Nat) (l : List Lg) (w : World) (hl : RdL w w.heap.size A n cap l) :
  Calls Try.prog 16 #[.int .i64 m, .slice A n cap] w fun e w' => e = .returned (.bool (rightL m l)) ∧ Below w.heap.size w w' := by
  have hcaps := hl.caps
  have hlen := hl.len
  cases hs : szL m l
  · have e : rightL m l = false := by rw [rightL, hs]; rfl
    rw [e]
    have hd : decide (m < 1) = true ∨ (decide (m < 1) = false ∧ (decide (200 < m) = true ∨ (decide (200 < m) = false ∧ decide ((2000 : Int) < (n : Int)) = true))) := by
      simp only [szL, hlen, decide_eq_false_iff_not, decide_eq_true_eq] at hs ⊢
      omega
    clear e hs
    rcases hd with h1 | ⟨h1, h2 | ⟨h2, h3⟩⟩
    all_goals
      go_enter Try.func16, Try.ntmps16
      go_wp2
      go_ret
      exact ⟨rfl, Below.refl _ _⟩
  · have hd : decide (m < 1) = false ∧ decide (200 < m) = false ∧ decide ((2000 : Int) < (n : Int)) = false := by
      simp only [szL, hlen, decide_eq_false_iff_not, decide_eq_true_eq] at hs ⊢
      omega
    obtain ⟨d1, d2, d3⟩ := hd
    have HY : RowKit.Hid ((∀ k, k < n → okL m (l.getD k (0, 0, 0, 0)) = true) → rightL m l = true) := Lib.hid fun h => by
      rw [rightL, hs, Bool.true_and, List.all_eq_true]
      intro x hx
      obtain ⟨k, hk, rfl⟩ := List.mem_iff_getElem.1 hx
      have := h k (by omega)
      rwa [List.getD, List.getElem?_eq_getElem hk] at this
    have HN : RowKit.Hid (∀ k x, l[k]? = some x → okL m x = false → rightL m l = false) := Lib.hid fun k x hx h => by
      rw [rightL, hs, Bool.true_and, List.all_eq_false]
      exact ⟨x, List.mem_of_getElem? hx, by simp [h]⟩
    clear hs
    generalize rightL m l = RR at *
    go_enter Try.func16, Try.ntmps16
    go_wp2
    go_loopg [20] n (fun gk i wr => ∃ k : Nat, k ≤ n ∧ gk = n - k ∧ i = .int .i64 k ∧ (∀ j, j < k → okL m (l.getD j (0, 0, 0, 0)) = true) ∧ Below w.heap.size w wr)
    case atStart => exact ⟨0, Nat.zero_le _, rfl, rfl, (fun j h => absurd h (by omega)), Below.refl _ _⟩
    case round =>
      obtain ⟨k, hk, rfl, rfl, hall, hb⟩ := hrel
      have Hall := Lib.hid hall
      clear hall
      by_cases hlt : k < n
      · obtain ⟨b, off, x, y, z, u, rfl, hbB, hx, c0, c1, c2, c3⟩ := (hl.below (flat_lasts _) hb (Nat.le_refl _) (Nat.le_refl _)).atL hlt
        have hki : (k : Int) < (n : Int) := by omega
        have hk0 : (0 : Int) ≤ (k : Int) := by omega
        have hsz := hb.size
        have Hx := Lib.hid hx
        clear hx
        cases ho : okL m (x, y, z, u)
        · have hsr := HN.out k _ Hx.out ho
          have Hsr := Lib.hid hsr
          have hd := okL_no ho
          clear hsr ho
          rcases hd with e1 | ⟨e1, e2 | ⟨e2, e3 | ⟨e3, e4 | ⟨e4, e5 | ⟨e5, e6 | ⟨e6, e7 | ⟨e7, e8 | ⟨e8, e9, e10⟩⟩⟩⟩⟩⟩⟩⟩
          all_goals
            go_wp2
            go_ret
            exact ⟨by rw [Hsr.out]; rfl, hb.alloc hsz _⟩
        · have Ho := Lib.hid ho
          obtain ⟨e1, e2, e3, e4, e5, e6, e7, e8, e9⟩ := okL_yes ho
          clear ho
          rcases e9 with e9 | ⟨e9, e10⟩
          all_goals
            go_wp2
            go_roundg (n - (k + 1))
            case rel => exact ⟨k + 1, by omega, rfl, by go_num, (fun j hj => by
              by_cases e : j = k
              · subst e; rw [List.getD, Hx.out]; exact Ho.out
              · exact Hall.out j (by omega)), hb.alloc hsz _⟩
            case measure => omega
      · have e : k = n := by omega
        subst e
        have hsr := HY.out Hall.out
        have Hsr := Lib.hid hsr
        clear hsr
        go_wp2
        go_ret
        exact ⟨by rw [Hsr.out]; rfl, hb⟩
end Go.Proofs.Ythmnkmomgaamlaa
