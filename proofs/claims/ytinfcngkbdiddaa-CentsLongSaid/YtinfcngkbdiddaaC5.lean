/- Plain law: whole shares. No condition. -/
import Derived.Test.YtinfcngkbdiddaaC3
namespace Go.Proofs.Ytinfcngkbdiddaa
open Go.RowKit
set_option linter.unusedVariables false
set_option linter.unusedSimpArgs false

theorem whole_fl {sh me : Nat → Rat} {i : Nat} {N : Int} (h : sh i = (N : Rat)) (h0 : me i = 0) : flC sh me i = N ∧ rsC sh me i = 0 := by
  have e : sh i + me i = ((N : Int) : Rat) := by rw [h, h0, Rat.add_zero]
  have e1 : flC sh me i = N := by
    unfold flC
    rw [e, Rat.floor_intCast]
  refine ⟨e1, ?_⟩
  unfold rsC
  rw [e1, e]
  grind
theorem whole_rng {sh me : Nat → Rat} {i : Nat} {N : Int} (h : sh i = (N : Rat)) (h1 : -1 < me i ∧ me i < 1) : N - 1 ≤ flC sh me i ∧ flC sh me i ≤ N := by
  unfold flC
  rw [h]
  constructor
  · refine Rat.le_floor_iff.2 ?_
    rw [Rat.intCast_sub]
    have : ((1 : Int) : Rat) = 1 := rfl
    rw [this]
    grind
  · have h2 : ((N : Rat) + me i).floor < N + 1 := Rat.floor_lt_iff.2 (by
      rw [Rat.intCast_add]
      have : ((1 : Int) : Rat) = 1 := rfl
      rw [this]
      grind)
    omega
theorem whole_got {sh me : Nat → Rat} {S : Nat → Bool} {i : Nat} {N : Int} (h : sh i = (N : Rat)) (h1 : -1 < me i ∧ me i < 1) (hp : S i = true → 0 < rsC sh me i) : N - 1 ≤ gotC sh me S i ∧ gotC sh me S i ≤ N + 1 ∧ (me i = 0 → gotC sh me S i = N) := by
  obtain ⟨a1, a2⟩ := whole_rng h h1
  unfold gotC
  refine ⟨by split <;> omega, by split <;> omega, fun h0 => ?_⟩
  obtain ⟨b1, b2⟩ := whole_fl h h0
  cases e : S i
  · simp [b1]
  · have := hp e
    rw [b2] at this
    grind
/-- nothing is missing where all is whole -/
theorem whole_none {sh me : Nat → Rat} {n m : Nat} {total : Int} {S : Nat → Bool} (hS : Sel n (rsC sh me) m S) (hmt : (m : Int) = total - smI (flC sh me) n) (ht : smI (flC sh me) n = total) : ∀ x, S x = false := by
  have : m = 0 := by omega
  subst this
  exact hS
end Go.Proofs.Ytinfcngkbdiddaa
