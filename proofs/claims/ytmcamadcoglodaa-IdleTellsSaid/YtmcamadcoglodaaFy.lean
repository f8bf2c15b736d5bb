/- Plain law: costs of a table that is read as a list of lists. No condition. -/
import Derived.Test.YtmcamadcoglodaaQ9
namespace Go.Proofs.Ytmcamadcoglodaa
open Go.RowKit
set_option linter.unusedVariables false

section
variable {m n : Nat} {D D' : Nat → Nat → Int} {T : Nat → Nat} {R K : Nat → Int} {M : Int}
theorem toL_at {i : Nat} (hi : i < m) : gi (ofF m (fun r => ((T r : Nat) : Int))) i = (T i : Int) := gi_eq (ofF_get hi)
theorem costF_congr (h : ∀ r k, r < m → k < n → D r k = D' r k) (hT : ∀ r, r < m → T r < n) : costF m D T = costF m D' T := sumN_congr m fun r hr => h r (T r) hr (hT r hr)
theorem tab_costT (hT : ∀ r, r < m → T r < n) : ∀ j, j ≤ m → costT (tabL m n D) (ofF m (fun r => ((T r : Nat) : Int))) j = sumN (fun r => D r (T r)) j := fun j hj =>
  sumN_congr j fun r hr => by
    rw [toL_at (show r < m by omega), Int.toNat_natCast, tabL_at (show r < m by omega) (hT r (by omega))]
theorem sumN_bd {f : Nat → Int} (hM : 0 ≤ M) : ∀ j, (∀ r, r < j → 0 ≤ f r ∧ f r ≤ M) → 0 ≤ sumN f j ∧ sumN f j ≤ (j : Int) * M
  | 0, _ => by simp [sumN]
  | j + 1, h => by
    have h1 := sumN_bd hM j (fun r hr => h r (by omega))
    have h2 := h j (by omega)
    have h3 : ((j + 1 : Nat) : Int) * M = (j : Int) * M + M := by rw [Int.natCast_add, Int.add_mul]; omega
    rw [sumN, h3]
    omega
theorem tab_sums (ht : Tab (tabL m n D) m n M) (hD : ∀ r k, r < m → k < n → 0 ≤ D r k ∧ D r k ≤ M) (hT : ∀ r, r < m → T r < n) : Sums (tabL m n D) (ofF m (fun r => ((T r : Nat) : Int))) := by
  refine ⟨fun i hi => ?_, fun j hj => ?_⟩
  · rw [ofF_len] at hi
    refine ⟨by rw [ht.len]; exact hi, by rw [toL_at hi]; omega, ?_⟩
    rw [toL_at hi, ht.row i hi]
    have := hT i hi
    omega
  · rw [ofF_len] at hj
    rw [tab_costT hT j hj]
    have h1 := sumN_bd (M := M) ht.hM.1 j (fun r hr => hD r (T r) (by omega) (hT r (by omega)))
    have h2 : (j : Int) * M ≤ 20 * M := Int.mul_le_mul_of_nonneg_right (by have := ht.mn; omega) ht.hM.1
    have := ht.hM
    omega
theorem Ce.congr {c c' : Nat → Nat → Int} (h : Ce m n c T R K) (he : ∀ r k, r < m → k < n → c r k = c' r k) : Ce m n c' T R K :=
  ⟨h.1, fun r k hr hk => by rw [← he r k hr hk]; exact h.feas r k hr hk, fun r hr => by rw [← he r _ hr (h.1.1 r hr)]; exact h.tight r hr, h.neg, h.free⟩
/-- one row turned, and turned back -/
theorem updR_back (D : Nat → Nat → Int) (i : Nat) (f : Nat → Int) : updR (updR D i f) i (D i) = D := by
  funext a
  unfold updR
  by_cases e : a = i
  · simp [e]
  · simp [e]
theorem onlyR_bd {i k : Nat} (hD : ∀ r k, r < m → k < n → 0 ≤ D r k ∧ D r k ≤ 68719476736) : ∀ r q, r < m → q < n → 0 ≤ updR D i (onlyF k (D i) n) r q ∧ updR D i (onlyF k (D i) n) r q ≤ 68719476736 := fun r q hr hq => by
  unfold updR
  by_cases e : r = i
  · subst e
    simp only [if_true]
    unfold onlyF
    split
    · omega
    · exact hD r q hr hq
  · simp only [if_neg e]
    exact hD r q hr hq
end
end Go.Proofs.Ytmcamadcoglodaa
