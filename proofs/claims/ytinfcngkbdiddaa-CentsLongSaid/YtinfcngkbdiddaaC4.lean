/- Plain law: a number less its whole part, and less 1, is never too great. No condition. -/
import Derived.Test.YtinfcngkbdiddaaC3
namespace Go.Proofs.Ytinfcngkbdiddaa
open Go.RowKit
set_option linter.unusedVariables false
set_option linter.unusedSimpArgs false

theorem fits_mono {y z : Int} (h : fits z = true) (hy : y.natAbs ≤ z.natAbs) : fits y = true := by
  rw [fits_iff] at *
  omega
theorem addK_int {x : Rat} {n : Int} (h1 : fitsF x = true) (h2 : fits (n * (x.den : Int)) = true) (h3 : fits (x.num - n * (x.den : Int)) = true) : addK x (-((n : Int) : Rat)) = true := by
  have e1 : (-((n : Int) : Rat)).num = -n := by rw [Rat.neg_num, Rat.num_intCast]
  have e2 : (-((n : Int) : Rat)).den = 1 := by rw [Rat.neg_den, Rat.den_intCast]
  unfold addK sumK
  rw [e1, e2]
  have a1 := fitsF_num h1
  have a2 := fitsF_den h1
  have b1 : x.num * ((1 : Nat) : Int) = x.num := by simp
  have b2 : (x.den : Int) * ((1 : Nat) : Int) = x.den := by simp
  have b3 : -n * (x.den : Int) = -(n * (x.den : Int)) := Int.neg_mul _ _
  rw [b1, b2, b3, a1, a2, ← Int.sub_eq_add_neg, h3]
  have b4 : fits (-(n * (x.den : Int))) = true := fits_mono h2 (by rw [Int.natAbs_neg]; exact Nat.le_refl _)
  rw [b4]
  rfl
theorem sub_floor {x : Rat} (h1 : fitsF x = true) (hx : -1 < x) : addK x (-((x.floor : Int) : Rat)) = true := by
  have a1 := fitsF_num h1
  have a2 := fitsF_den h1
  have hd := den_pos x
  have e := Int.mul_ediv_add_emod x.num (x.den : Int)
  have m1 := Int.emod_nonneg x.num (show (x.den : Int) ≠ 0 by omega)
  have m2 := Int.emod_lt_of_pos x.num hd
  have hf : -1 ≤ x.floor := Rat.le_floor_iff.2 (by
    have : ((-1 : Int) : Rat) = -1 := rfl
    rw [this]; grind)
  rw [Rat.floor_def] at hf ⊢
  generalize x.num / (x.den : Int) = q at *
  generalize x.num % (x.den : Int) = r at *
  have e2 : q * (x.den : Int) = (x.den : Int) * q := Int.mul_comm _ _
  refine addK_int h1 ?_ (fits_mono a2 (by omega))
  by_cases hq : q = -1
  · subst hq
    exact fits_mono a2 (by omega)
  · have hq0 : 0 ≤ q := by omega
    have := Int.mul_nonneg (show (0 : Int) ≤ x.den by omega) hq0
    exact fits_mono a1 (by omega)
theorem sub_one {r : Rat} (h1 : fitsF r = true) (h0 : 0 ≤ r) (h2 : r < 1) : addK r (-((1 : Int) : Rat)) = true := by
  have a2 := fitsF_den h1
  have hd := den_pos r
  have hn : 0 ≤ r.num := Rat.num_nonneg.2 h0
  have hl : r.num < r.den := by
    have h3 : r.floor < 1 := Rat.floor_lt_iff.2 (by
      have : ((1 : Int) : Rat) = 1 := rfl
      rw [this]; exact h2)
    rw [Rat.floor_def] at h3
    have e := Int.mul_ediv_add_emod r.num (r.den : Int)
    have m2 := Int.emod_lt_of_pos r.num hd
    have hq : 0 ≤ r.num / (r.den : Int) := Int.ediv_nonneg hn (by omega)
    have hz : r.num / (r.den : Int) = 0 := by omega
    rw [hz, Int.mul_zero] at e
    omega
  exact addK_int h1 (fits_mono a2 (by omega)) (fits_mono a2 (by omega))
/-- what is left fits -/
theorem sub_fits {x : Rat} {n : Int} (h1 : fitsF x = true) (h3 : fits (x.num - n * (x.den : Int)) = true) : fitsF (x - ((n : Int) : Rat)) = true := by
  have h := addK_int (n := n) h1
  have e : x - ((n : Int) : Rat) = Rat.divInt (x.num - n * (x.den : Int)) x.den := by
    have h5 := rat_add x (-((n : Int) : Rat))
    rw [Rat.neg_num, Rat.num_intCast, Rat.neg_den, Rat.den_intCast, ← Rat.sub_eq_add_neg] at h5
    have c1 : x.num * ((1 : Nat) : Int) + -n * (x.den : Int) = x.num - n * (x.den : Int) := by
      rw [Int.neg_mul, ← Int.sub_eq_add_neg]; simp
    have c2 : (x.den : Int) * ((1 : Nat) : Int) = x.den := by simp
    rw [c1, c2] at h5
    exact h5.symm
  rw [e]
  exact divInt_fits (by have := den_pos x; omega) h3 (fitsF_den h1)
end Go.Proofs.Ytinfcngkbdiddaa
