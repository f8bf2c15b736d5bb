/- Plain law: division of whole numbers that rounds down, by signs and digits. No condition. -/
import Derived.Test.YtkeajohkpmabcaaDoorW13
namespace Go.Proofs.YtkeajohkpmabcaaDoor
open Go.RowKit
set_option linter.unusedVariables false

/-- quotient and remainder, rounded down -/
def fq (x y : Int) : Int := if 0 < y then x / y else (-x) / (-y)
def fr (x y : Int) : Int := x - y * fq x y
theorem fr_def (x y : Int) : y * fq x y + fr x y = x := by unfold fr; omega
theorem fr_pos {x y : Int} (h : 0 < y) : fq x y = x / y ∧ fr x y = x % y := by
  unfold fr fq
  rw [if_pos h]
  have := Int.emod_def x y
  exact ⟨rfl, by omega⟩
theorem fr_neg {x y : Int} (h : y < 0) : fq x y = (-x) / (-y) ∧ fr x y = -((-x) % (-y)) := by
  unfold fr fq
  rw [if_neg (by omega)]
  have h1 := Int.emod_def (-x) (-y)
  refine ⟨rfl, ?_⟩
  rw [h1, Int.neg_mul]
  omega
theorem fr_unique {x y q r : Int} (h : y * q + r = x) (hr : (0 < y ∧ 0 ≤ r ∧ r < y) ∨ (y < 0 ∧ y < r ∧ r ≤ 0)) : fq x y = q ∧ fr x y = r := by
  rcases hr with ⟨h1, h2, h3⟩ | ⟨h1, h2, h3⟩
  · obtain ⟨e1, e2⟩ := fr_pos (x := x) h1
    rw [e1, e2]
    exact (Int.ediv_emod_unique h1).2 ⟨by omega, h2, h3⟩
  · obtain ⟨e1, e2⟩ := fr_neg (x := x) h1
    have := (Int.ediv_emod_unique (a := -x) (b := -y) (r := -r) (q := q) (by omega)).2 ⟨by rw [Int.neg_mul]; omega, by omega, by omega⟩
    rw [e1, e2, this.1, this.2]
    exact ⟨rfl, by omega⟩
theorem fr_bounds {x y : Int} (h : y ≠ 0) : (0 < y ∧ 0 ≤ fr x y ∧ fr x y < y) ∨ (y < 0 ∧ y < fr x y ∧ fr x y ≤ 0) := by
  rcases Int.lt_or_gt_of_ne h with h | h
  · obtain ⟨-, e2⟩ := fr_neg (x := x) h
    have h1 := Int.emod_nonneg (-x) (b := -y) (by omega)
    have h2 := Int.emod_lt_of_pos (-x) (show 0 < -y by omega)
    right; omega
  · obtain ⟨-, e2⟩ := fr_pos (x := x) h
    have h1 := Int.emod_nonneg x (b := y) (by omega)
    have h2 := Int.emod_lt_of_pos x h
    left; omega
/-- by signs and digits: one way -/
theorem div_opp {s t : Int} {a b : List Int} (h1 : rightB s a = true) (h2 : rightB t b = true) (h : s * t < 0) (hr : val a % val b ≠ 0) : fq (bval s a) (bval t b) = -(val a / val b + 1) ∧ fr (bval s a) (bval t b) = t * (val b - val a % val b) := by
  obtain ⟨c1, l1, e1⟩ := rightB_cn h1
  obtain ⟨c2, l2, e2⟩ := rightB_cn h2
  have hb : 0 < val b := by
    rcases e2 with ⟨rfl, rfl⟩ | ⟨e2, -⟩
    · simp at h
    · exact c2.pos e2
  have hd := Int.emod_add_mul_ediv (val a) (val b)
  have h3 := Int.emod_nonneg (val a) (b := val b) (by omega)
  have h4 := Int.emod_lt_of_pos (val a) hb
  unfold bval
  generalize val a / val b = q at *
  generalize val a % val b = r at *
  generalize val a = x at *
  generalize val b = y at *
  subst hd
  rcases e1 with ⟨rfl, rfl⟩ | ⟨-, rfl | rfl⟩ <;> rcases e2 with ⟨rfl, rfl⟩ | ⟨-, rfl | rfl⟩ <;> simp at h
  · exact fr_unique (by grind) (by right; omega)
  · exact fr_unique (by grind) (by left; omega)
/-- .. and the other -/
theorem div_same {s t : Int} {a b : List Int} (h1 : rightB s a = true) (h2 : rightB t b = true) (ht : t ≠ 0) (h : ¬ s * t < 0 ∨ val a % val b = 0) : fq (bval s a) (bval t b) = s * t * (val a / val b) ∧ fr (bval s a) (bval t b) = s * (val a % val b) := by
  obtain ⟨c1, l1, e1⟩ := rightB_cn h1
  obtain ⟨c2, l2, e2⟩ := rightB_cn h2
  have hb : 0 < val b := by
    rcases e2 with ⟨rfl, rfl⟩ | ⟨e2, -⟩
    · exact absurd rfl ht
    · exact c2.pos e2
  have hd := Int.emod_add_mul_ediv (val a) (val b)
  have h3 := Int.emod_nonneg (val a) (b := val b) (by omega)
  have h4 := Int.emod_lt_of_pos (val a) hb
  have hz : a = [] → val a / val b = 0 ∧ val a % val b = 0 := fun e => by subst e; simp [val]
  unfold bval
  generalize val a / val b = q at *
  generalize val a % val b = r at *
  generalize val a = x at *
  generalize val b = y at *
  subst hd
  rcases e1 with ⟨rfl, rfl⟩ | ⟨-, rfl | rfl⟩ <;> rcases e2 with ⟨rfl, rfl⟩ | ⟨-, rfl | rfl⟩ <;> simp at h ht
  · obtain ⟨rfl, rfl⟩ := hz rfl
    exact fr_unique (by simp) (by left; omega)
  · obtain ⟨rfl, rfl⟩ := hz rfl
    exact fr_unique (by simp) (by right; omega)
  · exact fr_unique (by grind) (by left; omega)
  · subst h; exact fr_unique (by grind) (by right; omega)
  · subst h; exact fr_unique (by grind) (by left; omega)
  · exact fr_unique (by grind) (by right; omega)
end Go.Proofs.YtkeajohkpmabcaaDoor
