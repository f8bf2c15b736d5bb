/- Walk over sum of the statements of layer 36. Conditions stand in the theorem. -/
import Derived.Test.YthhmdljfklbbeaaP15
namespace Go.Proofs.Ythhmdljfklbbeaa
open Go.RowKit
set_option linter.unusedVariables false

/-- what keeps the sum of claims within bounds -/
def SumBd (cl : List (List Int)) (t : Nat) : Prop := ∀ i, i < t → ∀ j, j ≤ (clAt cl i).length → 0 ≤ sumN (sI cl) i + sumN (gi (clAt cl i)) j ∧ sumN (sI cl) i + sumN (gi (clAt cl i)) j ≤ 4000000000000000000
theorem lawsum_any (A : Option Addr) (n cap : Nat) (cl : List (List Int)) (m : Nat) (w : World) (hl : RdII w w.heap.size A n cap cl) (hm : m ≤ 1000000) (hS : SumBd cl (min m n)) :
  Calls Try.prog 22 #[.slice A n cap, .int .i64 m] w fun e w' => e = .returned (.int .i64 (sumN (sI cl) (min m n))) ∧ w = w' := by
  have hcaps := hl.caps
  obtain ⟨t, ht⟩ : ∃ t, min m n = t := ⟨_, rfl⟩
  rw [ht] at hS ⊢
  have HS := Lib.hid hS; clear hS
  have htm : t ≤ m ∧ t ≤ n ∧ (t = m ∨ t = n) := by omega
  obtain ⟨ht1, ht2, ht3⟩ := htm
  clear ht
  go_enter Try.func22, Try.ntmps22
  go_wp2
  go_loopg [5, 6] t (fun gk s i wr => ∃ k : Nat, k ≤ t ∧ gk = t - k ∧ i = .int .i64 k ∧ s = .int .i64 (sumN (sI cl) k) ∧ w = wr)
  case atStart => exact ⟨0, Nat.zero_le _, rfl, rfl, rfl, rfl⟩
  case round =>
    obtain ⟨k, hk, rfl, rfl, rfl, rfl⟩ := hrel
    by_cases hlt : k < t
    · obtain ⟨b, off, A', n', cap', l, rfl, hbB, hx, c0, hl'⟩ := hl.atII (show k < n by omega)
      have hdn : decide (k < n) = true := by simp; omega
      have hdm : decide (k < m) = true := by simp; omega
      have hki : (k : Int) < (n : Int) := by omega
      have hk0 : (0 : Int) ≤ (k : Int) := by omega
      have e := clAt_eq hx
      have hlen := hl'.len
      have hS := HS.out k hlt
      rw [e, hlen] at hS
      have HSk := Lib.hid hS
      have He : RowKit.Hid (sumN (sI cl) (k + 1) = sumN (sI cl) k + sumN (gi l) n') := Lib.hid (by rw [sumN, sI, e, lsum, hlen])
      have hcaps' := hl'.caps
      clear hS e hx hlen
      go_wp2
      go_loopg [5, 7] n' (fun gk s i wr => ∃ j : Nat, j ≤ n' ∧ gk = n' - j ∧ i = .int .i64 j ∧ s = .int .i64 (sumN (sI cl) k + sumN (gi l) j) ∧ w = wr)
      case atStart => exact ⟨0, Nat.zero_le _, rfl, rfl, by simp [sumN], rfl⟩
      case round =>
        obtain ⟨j, hj, rfl, rfl, rfl, rfl⟩ := hrel
        by_cases hlt2 : j < n'
        · obtain ⟨b', off', x, rfl, hbB', hx, c1⟩ := hl'.atI hlt2
          have hdj : decide (j < n') = true := by simp; omega
          have hji : (j : Int) < (n' : Int) := by omega
          have hj0 : (0 : Int) ≤ (j : Int) := by omega
          have h1 := HSk.out j hj
          have h2 := HSk.out (j + 1) (by omega)
          have e : sumN (gi l) (j + 1) = sumN (gi l) j + x := by rw [sumN, gi_eq hx]
          rw [e] at h2
          have He2 := Lib.hid e
          clear e hx
          generalize sumN (gi l) j = S2 at *
          generalize sumN (sI cl) k = S1 at *
          obtain ⟨S, hSe⟩ : ∃ S, S1 + S2 = S := ⟨_, rfl⟩
          rw [← Int.add_assoc, hSe] at h2
          rw [hSe] at h1 ⊢
          obtain ⟨h11, h12⟩ := h1
          obtain ⟨h21, h22⟩ := h2
          have hw : IntKind.i64.wrap (S + x) = S + x := IntWalk.i64_in _ (by omega)
          have Hse := Lib.hid hSe
          clear hSe
          go_wp2
          go_roundg (n' - (j + 1))
          case rel => exact ⟨j + 1, by omega, rfl, by go_num, by rw [He2.out, ← Int.add_assoc, Hse.out], rfl⟩
          case measure => omega
        · have e : j = n' := by omega
          subst e
          have hdj : decide (j < j) = false := by simp
          go_wp2
          go_roundg (t - (k + 1))
          case rel => exact ⟨k + 1, by omega, rfl, by go_num, by rw [He.out], rfl⟩
          case measure => omega
    · have e : k = t := by omega
      subst e
      rcases ht3 with rfl | rfl
      · by_cases hkn : k < n
        · have hdn : decide (k < n) = true := by simp; omega
          have hdm : decide (k < k) = false := by simp
          go_wp2
          go_ret
          exact ⟨rfl, rfl⟩
        · have hdn : decide (k < n) = false := by simp; omega
          go_wp2
          go_ret
          exact ⟨rfl, rfl⟩
      · have hdn : decide (k < k) = false := by simp
        go_wp2
        go_ret
        exact ⟨rfl, rfl⟩
end Go.Proofs.Ythhmdljfklbbeaa
