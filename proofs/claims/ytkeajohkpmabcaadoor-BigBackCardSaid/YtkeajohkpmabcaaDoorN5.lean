/- Plain law: one digit of a quotient, as it is guessed, and put right. No condition. -/
import Derived.Test.YtkeajohkpmabcaaDoorN3
namespace Go.Proofs.YtkeajohkpmabcaaDoor
open Go.RowKit
set_option linter.unusedVariables false

/-- what is divided, and the divisor, by their greatest digits -/
structure Kn (W V q P top u3 v1 v2 : Int) : Prop where
  hP : 0 < P
  hu : 0 ≤ u3 ∧ u3 < 1048576
  hv : 0 ≤ v2 ∧ v2 < 1048576
  h1 : 1 ≤ v1
  ht : 0 ≤ top
  hq : 0 ≤ q ∧ q < 1048576
  wl : (top * 1048576 + u3) * P ≤ W
  wu : W < (top * 1048576 + u3 + 1) * P
  vl : (v1 * 1048576 + v2) * P ≤ V
  vu : V < (v1 * 1048576 + v2 + 1) * P
  ql : q * V ≤ W
  qu : W < (q + 1) * V
theorem Kn.start {W V q P top u3 v1 v2 : Int} (h : Kn W V q P top u3 v1 v2) : q ≤ top / v1 := by
  have h1 := h.h1
  refine (Int.le_ediv_iff_mul_le (by omega)).2 ?_
  have hP := h.hP
  have e1 : q * ((v1 * 1048576 + v2) * P) ≤ q * V := Int.mul_le_mul_of_nonneg_left h.vl h.hq.1
  have e2 : q * ((v1 * 1048576) * P) ≤ q * ((v1 * 1048576 + v2) * P) := Int.mul_le_mul_of_nonneg_left (Int.mul_le_mul_of_nonneg_right (by have := h.hv; omega) (by omega)) h.hq.1
  have e3 : (top * 1048576 + u3 + 1) * P ≤ ((top + 1) * 1048576) * P := Int.mul_le_mul_of_nonneg_right (by have := h.hu; omega) (by omega)
  have e4 := h.ql
  have e5 := h.wu
  have e6 : q * ((v1 * 1048576) * P) = (q * v1 * 1048576) * P := by rw [Int.mul_assoc q v1, Int.mul_assoc q]
  have e7 : (q * v1 * 1048576) * P < ((top + 1) * 1048576) * P := by omega
  have e8 := Int.lt_of_mul_lt_mul_right e7 (by omega)
  omega
theorem Kn.dec {W V q P top u3 v1 v2 g r : Int} (h : Kn W V q P top u3 v1 v2) (hg : g * v1 + r = top) (hq : q ≤ g) (hc : 1048576 ≤ g ∨ r * 1048576 + u3 < g * v2) : q ≤ g - 1 := by
  have hq2 := h.hq
  rcases hc with hc | hc
  · omega
  · have hP := h.hP
    have e1 : top * 1048576 + u3 + 1 ≤ g * (v1 * 1048576 + v2) := by
      rw [Int.mul_add, ← Int.mul_assoc]
      omega
    have e2 := Int.mul_le_mul_of_nonneg_right e1 (Int.le_of_lt hP)
    have e3 : g * ((v1 * 1048576 + v2) * P) ≤ g * V := Int.mul_le_mul_of_nonneg_left h.vl (by omega)
    rw [← Int.mul_assoc] at e3
    have e4 := h.wu
    refine Classical.byContradiction fun hn => ?_
    have e5 : g = q := by omega
    subst e5
    have := h.ql
    omega
theorem Kn.stop {W V q P top u3 v1 v2 g r : Int} (h : Kn W V q P top u3 v1 v2) (hg : g * v1 + r = top) (hr : 0 ≤ r) (hb : g < 1048576) (hc : 1048576 ≤ r ∨ g * v2 ≤ r * 1048576 + u3) (h1 : 1 ≤ g) : (g - 1) * V ≤ W := by
  have hP := h.hP
  have hv1 := h.h1
  have e1 : (g - 1) * V ≤ (g - 1) * ((v1 * 1048576 + v2 + 1) * P) := Int.mul_le_mul_of_nonneg_left (by have := h.vu; omega) (by omega)
  rw [← Int.mul_assoc] at e1
  have e2 : (g - 1) * (v1 * 1048576 + v2 + 1) ≤ top * 1048576 + u3 := by
    have hu := h.hu
    have hv := h.hv
    have f0 : (g - 1) * (v1 * 1048576 + v2 + 1) = g * v1 * 1048576 - v1 * 1048576 + (g - 1) * (v2 + 1) := by
      rw [Int.add_assoc (v1 * 1048576), Int.mul_add, Int.sub_mul, Int.one_mul, Int.mul_assoc]
    rw [f0]
    rcases hc with hc | hc
    · have f1 : (g - 1) * (v2 + 1) ≤ (g - 1) * 1048576 := Int.mul_le_mul_of_nonneg_left (by omega) (by omega)
      have f2 : g * v1 * 1048576 + r * 1048576 = top * 1048576 := by rw [← hg, Int.add_mul]
      omega
    · have f1 : (g - 1) * (v2 + 1) = g * v2 - v2 + (g - 1) := by rw [Int.mul_add, Int.sub_mul, Int.one_mul, Int.mul_one]
      have f2 : g * v1 * 1048576 + r * 1048576 = top * 1048576 := by rw [← hg, Int.add_mul]
      omega
  have e3 := Int.mul_le_mul_of_nonneg_right e2 (Int.le_of_lt hP)
  have := h.wl
  omega
/-- what is left after a multiple of the divisor was taken away: before digit i; V are the divisor's digits, and zeros -/
def StI (U V O : Nat → Int) (g : Int) (i : Nat) (c : Int) : Prop := vF O i = vF U i - g * vF V i + pw i * c ∧ Dg O i ∧ 0 ≤ c ∧ c ≤ 1048576
theorem StI.zero {U V O : Nat → Int} {g : Int} : StI U V O g 0 0 := ⟨by simp [vF, pw], fun i h => absurd h (by omega), by omega, by omega⟩
theorem StI.step {U V O : Nat → Int} {g : Int} {i : Nat} {c : Int} (h : StI U V O g i c) (hg : 0 ≤ g ∧ g < 1048576) (ha : 0 ≤ U i ∧ U i < 1048576) (hb : 0 ≤ V i ∧ V i < 1048576) (ho : O i = (U i - c - g * V i) % 1048576) : StI U V O g (i + 1) (-((U i - c - g * V i) / 1048576)) := by
  obtain ⟨h1, h2, h3, h4⟩ := h
  have h6 := mul_bd hg hb
  have h7 : g * V i ≤ 1048575 * 1048575 := Int.mul_le_mul (by omega) (by omega) hb.1 (by omega)
  refine ⟨?_, fun j hj => ?_, by omega, by omega⟩
  · have h5 := step_up (p := pw i) (c := -c) (x := U i - g * V i) (r := (U i - c - g * V i) % 1048576) (q := (U i - c - g * V i) / 1048576) (by have := dm (U i - c - g * V i); omega)
    have h8 : g * (pw i * V i) = pw i * (g * V i) := Int.mul_left_comm ..
    rw [vF, vF, vF, pw, ho, h1, Int.mul_neg, Int.mul_add, h8]
    rw [Int.mul_neg, Int.mul_sub] at h5
    omega
  · by_cases e : j = i
    · subst e; rw [ho]; omega
    · exact h2 j (by omega)
theorem StI.congr {U V O O' : Nat → Int} {g : Int} {i : Nat} {c : Int} (h : StI U V O g i c) (he : ∀ j, j < i → O' j = O j) : StI U V O' g i c :=
  ⟨by rw [vF_congr i he]; exact h.1, fun j hj => by rw [he j hj]; exact h.2.1 j hj, h.2.2⟩
/-- nothing is borrowed at the end exactly if it was not too much -/
theorem StI.fin {U V O : Nat → Int} {g : Int} {m : Nat} {c : Int} (h : StI U V O g m c) (hU : Dg U m) (hV : 0 ≤ vF V m) (hg : 0 ≤ g) : (c = 0 ↔ g * vF V m ≤ vF U m) ∧ (c = 0 → vF O m = vF U m - g * vF V m) := by
  obtain ⟨h1, h2, h3, h4⟩ := h
  have h5 := vF_lt h2
  have h6 := vF_nonneg h2
  have h7 := pw_pos m
  have h8 := vF_lt hU
  have h9 := Int.mul_nonneg hg hV
  refine ⟨⟨fun e => by subst e; omega, fun hle => ?_⟩, fun e => by subst e; omega⟩
  refine Classical.byContradiction fun hc => ?_
  have := Int.mul_le_mul_of_nonneg_left (show 1 ≤ c by omega) (Int.le_of_lt h7)
  omega
/-- put right: the divisor is added again, and what is carried out is dropped -/
theorem st_back {O V B : Nat → Int} {m : Nat} {c : Int} (h : AddI O V B m c) {X : Int} (hX : vF O m = X + pw m) (hX2 : 0 ≤ X + vF V m) : vF B m = X + vF V m := by
  have h1 := vF_lt h.2.1
  have h2 := vF_nonneg h.2.1
  have h3 := h.1
  have h4 := h.2.2
  have h5 := pw_pos m
  by_cases e : c = 0
  · subst e; omega
  · have e1 : c = 1 := by omega
    subst e1
    omega
end Go.Proofs.YtkeajohkpmabcaaDoor
