/- The plain law of FracOrder and FracFloor: signs of differences, integral parts. No condition. -/
import Derived.Test.YtdlcglndhhndpaaG
import Derived.Test.YtdlcglndhhndpaaD
namespace Go.Proofs.Ytdlcglndhhndpaa
open Go.RowKit
set_option linter.unusedVariables false
set_option linter.unusedSimpArgs false

theorem cmpQ_zero {x y : Rat} : cmpQ x y = 0 ↔ x = y := by
  unfold cmpQ
  split
  · grind
  · split <;> grind
theorem cmpQ_neg (x y : Rat) : cmpQ y x = - cmpQ x y := by
  unfold cmpQ
  split <;> split <;> grind
theorem cmpQ_rng (x y : Rat) : -1 ≤ cmpQ x y ∧ cmpQ x y ≤ 1 := by
  unfold cmpQ
  split
  · omega
  · split <;> omega
theorem cmpQ_le {x y : Rat} : cmpQ x y ≤ 0 ↔ x ≤ y := by
  unfold cmpQ
  split
  · grind
  · split <;> grind
theorem cmpQ_trans {x y z : Rat} (h : cmpQ x y ≤ 0) (h' : cmpQ y z ≤ 0) : cmpQ x z ≤ 0 := by
  rw [cmpQ_le] at *
  grind
theorem cmpQ_add (x y z : Rat) : cmpQ (x + z) (y + z) = cmpQ x y := by
  unfold cmpQ
  split <;> split <;> grind
theorem num_lt {q : Rat} : q.num < 0 ↔ q < 0 := by
  have h1 := @Rat.num_nonneg q
  constructor
  · intro h
    have h2 : ¬ 0 ≤ q := fun e => by have := h1.2 e; omega
    grind
  · intro h
    have h2 : ¬ 0 ≤ q.num := fun e => by have := h1.1 e; grind
    omega
theorem cmpQ_sub (x y : Rat) : sgI (x - y).num = cmpQ x y := by
  have h1 := @num_lt (x - y)
  have h2 := @Rat.num_eq_zero (x - y)
  unfold sgI cmpQ
  split
  · have := h1.1 (by assumption)
    rw [if_pos (by grind)]
  · have h3 : ¬ x - y < 0 := fun e => by have := h1.2 e; omega
    split
    · have h4 : x - y = 0 := h2.1 (by assumption)
      rw [if_neg (by grind), if_neg (by grind)]
    · have h4 : ¬ x - y = 0 := fun e => by have := h2.2 e; omega
      rw [if_neg (by grind), if_pos (by grind)]
theorem cmpQ_mul (x y z : Rat) : cmpQ (x * z) (y * z) = cmpQ x y * sgI z.num := by
  have h1 := @num_lt z
  have h2 := @Rat.num_eq_zero z
  unfold sgI
  split
  · have h3 := h1.1 (by assumption)
    have h4 : 0 < -z := by grind
    have e1 : ∀ a b : Rat, a * z < b * z ↔ b < a := fun a b => by
      have h5 := @Rat.mul_lt_mul_right b a (-z) h4
      rw [← h5, Rat.mul_neg, Rat.mul_neg]
      grind
    unfold cmpQ
    simp only [e1]
    split <;> split <;> grind
  · have h3 : ¬ z < 0 := fun e => by have := h1.2 e; omega
    split
    · have h4 : z = 0 := h2.1 (by assumption)
      rw [h4, Rat.mul_zero, Rat.mul_zero, Int.mul_zero]
      exact cmpQ_zero.2 rfl
    · have h5 : ¬ z = 0 := fun e => by have := h2.2 e; omega
      have h4 : 0 < z := by grind
      unfold cmpQ
      simp only [Rat.mul_lt_mul_right h4, Int.mul_one]
theorem divInt_1 (a : Int) : Rat.divInt a 1 = (a : Rat) := by
  have h := rat_parts (a : Rat)
  rw [Rat.num_intCast, Rat.den_intCast] at h
  exact h
theorem floor_neg1 {f : Rat} (h : ((f.floor : Int) : Rat) = f) : (-f).floor = -f.floor := by
  have e : -f = ((-f.floor : Int) : Rat) := by rw [Rat.intCast_neg, h]
  rw [e, Rat.floor_intCast]
theorem floor_neg2 {f : Rat} (h : ((f.floor : Int) : Rat) ≠ f) : (-f).floor = -(f.floor + 1) := by
  have h1 := Rat.floor_le f
  have h2 := Rat.lt_floor_add_one f
  have h3 : -(f.floor + 1) ≤ (-f).floor := Rat.le_floor_iff.2 (by rw [Rat.intCast_neg]; grind)
  have h4 : (-f).floor < -(f.floor + 1) + 1 := Rat.floor_lt_iff.2 (by
    rw [show -(f.floor + 1) + 1 = -f.floor by omega, Rat.intCast_neg]; grind)
  omega

theorem St.hide1 {w W : World} {L : List Blk} {D : List Hl} (K : St w L D W) : ∃ R : World → Prop, ∀ W', R W' ↔ St w L D W' := ⟨_, fun _ => Iff.rfl⟩
end Go.Proofs.Ytdlcglndhhndpaa
