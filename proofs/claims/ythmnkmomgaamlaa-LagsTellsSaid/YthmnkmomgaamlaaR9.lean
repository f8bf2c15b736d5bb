/- Walks over slices.Max and Latest of package lags. Conditions stand in each theorem. -/
import Derived.Test.YthmnkmomgaamlaaR5
import Derived.Test.YthmnkmomgaamlaaRp
import Derived.Test.YthmnkmomgaamlaaG4
namespace Go.Proofs.Ythmnkmomgaamlaa
open Go.RowKit
set_option linter.unusedVariables false

def MaxPost (w : World) (n : Nat) (f : Nat → Int) (e : Ending) (w' : World) : Prop := ∃ M : Int, e = .returned (.int .i64 M) ∧ (∀ v, v < n → f v ≤ M) ∧ (∃ v, v < n ∧ f v = M) ∧ w = w'
theorem max_any (A : Option Addr) (n cap : Nat) (f : Nat → Int) (w : World) (hl : RdI w w.heap.size A n cap (ofF n f)) (hn : 1 ≤ n) :
  Calls Try.prog 27 #[.slice A n cap] w (MaxPost w n f) := by
  have hcaps := hl.caps
  obtain ⟨b, off, x, rfl, hbB, hx, k0⟩ := hl.atI (k := 0) (by omega)
  obtain ⟨-, ex⟩ := ofF_get_some hx
  subst ex
  have h0 : (0 : Int) < (n : Int) := by omega
  have hd : decide ((n : Int) < 1) = false := by simp; omega
  have hd2 : decide (n < 1) = false := by simp; omega
  rw [Nat.add_zero] at k0
  clear hx
  go_enter Try.func27, Try.ntmps27
  go_wp2
  go_loopg [3, 4] (n - 1) (fun gk m i wr => ∃ (k : Nat) (M : Int), 1 ≤ k ∧ k ≤ n ∧ gk = n - k ∧ i = .int .i64 k ∧ m = .int .i64 M ∧ (∀ v, v < k → f v ≤ M) ∧ (∃ v, v < n ∧ f v = M) ∧ w = wr)
  case atStart => exact ⟨1, f 0, Nat.le_refl _, hn, rfl, rfl, rfl, (fun v hv => by rw [show v = 0 by omega]; exact Int.le_refl _), ⟨0, by omega, rfl⟩, rfl⟩
  case round =>
    obtain ⟨k, M, hk1, hk, rfl, rfl, rfl, hall, hex, rfl⟩ := hrel
    have Hall := Lib.hid hall; have Hex := Lib.hid hex
    clear hall hex
    by_cases hlt : k < n
    · obtain ⟨b', off', x, hA, hbB', hx, c0⟩ := hl.atI hlt
      injection hA with hA; injection hA with hA1 hA2
      subst hA1 hA2
      obtain ⟨-, ex⟩ := ofF_get_some hx
      subst ex
      have hki : (k : Int) < (n : Int) := by omega
      have hk0 : (0 : Int) ≤ (k : Int) := by omega
      obtain ⟨X, hX⟩ : ∃ X, f k = X := ⟨_, rfl⟩
      have HX := Lib.hid hX
      rw [hX] at c0
      clear hx hX
      obtain ⟨M2, hM2⟩ : ∃ y, max M X = y := ⟨_, rfl⟩
      have HM := Lib.hid (show M ≤ M2 ∧ X ≤ M2 ∧ (M2 = M ∨ M2 = X) by omega)
      go_wp2
      go_roundg (n - (k + 1))
      case rel => exact ⟨k + 1, M2, by omega, by omega, rfl, by go_num, by rw [← hM2], (fun v hv => by
        have := HM.out
        by_cases e : v = k
        · subst e; rw [HX.out]; omega
        · have := Hall.out v (by omega); omega), (by
        rcases HM.out.2.2 with h | h
        · rw [h]; exact Hex.out
        · exact ⟨k, hlt, by rw [HX.out, h]⟩), rfl⟩
      case measure => omega
    · have e : k = n := by omega
      subst e
      go_wp2
      go_ret
      exact ⟨M, rfl, Hall.out, Hex.out, rfl⟩
end Go.Proofs.Ythmnkmomgaamlaa
