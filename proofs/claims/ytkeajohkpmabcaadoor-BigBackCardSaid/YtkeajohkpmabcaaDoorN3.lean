/- Plain law: products and quotients of digits, step by step. No condition. -/
import Derived.Test.YtkeajohkpmabcaaDoorN2
namespace Go.Proofs.YtkeajohkpmabcaaDoor
open Go.RowKit
set_option linter.unusedVariables false

def updF (f : Nat → Int) (p : Nat) (x : Int) : Nat → Int := fun j => if j = p then x else f j
/-- multiplying: row i, before digit k of b; o0 are the digits before this row -/
def MulI (x : Int) (b o0 o : Nat → Int) (M i nb k : Nat) (c : Int) : Prop := vF o M + pw (i + k) * c = vF o0 M + pw i * (x * vF b k) ∧ Dg o M ∧ (0 ≤ c ∧ c < 1048576) ∧ ∀ j, i + k ≤ j → o j = o0 j
theorem MulI.zero {x : Int} {b o : Nat → Int} {M i nb : Nat} (h : Dg o M) : MulI x b o o M i nb 0 0 := ⟨by simp [vF], h, by omega, fun _ _ => rfl⟩
theorem mul_bd {a b : Int} (ha : 0 ≤ a ∧ a < 1048576) (hb : 0 ≤ b ∧ b < 1048576) : 0 ≤ a * b ∧ a * b ≤ 1099509530625 := by
  have h1 := Int.mul_nonneg ha.1 hb.1
  have h2 : a * b ≤ 1048575 * 1048575 := Int.mul_le_mul (by omega) (by omega) hb.1 (by omega)
  omega
theorem MulI.step {x : Int} {b o0 o : Nat → Int} {M i nb k : Nat} {c : Int} (h : MulI x b o0 o M i nb k c) (hx : 0 ≤ x ∧ x < 1048576) (hb : 0 ≤ b k ∧ b k < 1048576) (hM : i + k < M) :
    MulI x b o0 (updF o (i + k) ((o (i + k) + x * b k + c) % 1048576)) M i nb (k + 1) ((o (i + k) + x * b k + c) / 1048576) := by
  obtain ⟨h1, h2, h3, h4⟩ := h
  have h5 := h2 (i + k) hM
  have h6 := mul_bd hx hb
  refine ⟨?_, fun j hj => ?_, by omega, fun j hj => ?_⟩
  · have h7 : vF (updF o (i + k) ((o (i + k) + x * b k + c) % 1048576)) M = vF o M + pw (i + k) * ((o (i + k) + x * b k + c) % 1048576 - o (i + k)) := by
      unfold updF
      rw [vF_upd, if_pos hM]
    rw [h7, vF, show i + (k + 1) = (i + k) + 1 by omega, pw, Int.mul_add x, Int.mul_add (pw i)]
    have h8 : pw i * (x * (pw k * b k)) = pw (i + k) * (x * b k) := by
      rw [pw_add, Int.mul_assoc, Int.mul_left_comm x]
    rw [h8]
    have h9 := step_up (p := pw (i + k)) (c := o (i + k)) (x := x * b k + c) (r := (o (i + k) + x * b k + c) % 1048576) (q := (o (i + k) + x * b k + c) / 1048576) (by have := dm (o (i + k) + x * b k + c); omega)
    rw [Int.mul_sub]
    rw [Int.mul_add (pw (i + k)) (x * b k)] at h9
    omega
  · unfold updF
    by_cases e : j = i + k
    · rw [if_pos e]; omega
    · rw [if_neg e]; exact h2 j hj
  · unfold updF
    rw [if_neg (by omega)]
    exact h4 j (by omega)
/-- the row's end: what is carried is written behind -/
theorem MulI.fin {x : Int} {b o0 o : Nat → Int} {M i nb : Nat} {c : Int} (h : MulI x b o0 o M i nb nb c) (hM : i + nb < M) (h0 : o0 (i + nb) = 0) : vF (updF o (i + nb) (o (i + nb) + c)) M = vF o0 M + pw i * (x * vF b nb) ∧ Dg (updF o (i + nb) (o (i + nb) + c)) M ∧ ∀ j, i + nb < j → updF o (i + nb) (o (i + nb) + c) j = o0 j := by
  obtain ⟨h1, h2, h3, h4⟩ := h
  have h5 := h4 (i + nb) (Nat.le_refl _)
  rw [h5, h0]
  refine ⟨?_, fun j hj => ?_, fun j hj => ?_⟩
  · unfold updF
    rw [vF_upd, if_pos hM, h5, h0]
    rw [← h1]
    congr 2
    omega
  · unfold updF
    by_cases e : j = i + nb
    · rw [if_pos e]; omega
    · rw [if_neg e]; exact h2 j hj
  · unfold updF
    rw [if_neg (by omega)]
    exact h4 j (by omega)
/-- the number of the digits from i on -/
def vT (f : Nat → Int) (n i : Nat) : Int := vF (fun j => f (i + j)) (n - i)
theorem vT_all (f : Nat → Int) (n : Nat) : vT f n 0 = vF f n := by
  unfold vT
  rw [Nat.sub_zero]
  exact vF_congr n fun i _ => by rw [Nat.zero_add]
theorem vT_end (f : Nat → Int) (n : Nat) : vT f n n = 0 := by unfold vT; rw [Nat.sub_self]; rfl
theorem vT_step (f : Nat → Int) {n i : Nat} (h : i < n) : vT f n i = f i + 1048576 * vT f n (i + 1) := by
  unfold vT
  rw [show n - i = (n - (i + 1)) + 1 by omega, vF_shift]
  congr 2
  exact vF_congr _ fun j _ => by rw [show i + 1 + j = i + (j + 1) by omega]
/-- dividing by one digit: down to digit i -/
def ShI (a o : Nat → Int) (n i : Nat) (d r : Int) : Prop := d * vT o n i + r = vT a n i ∧ (0 ≤ r ∧ r < d) ∧ ∀ j, i ≤ j → j < n → 0 ≤ o j ∧ o j < 1048576
theorem ShI.zero {a o : Nat → Int} {n : Nat} {d : Int} (hd : 0 < d) : ShI a o n n d 0 := ⟨by rw [vT_end, vT_end]; omega, by omega, fun j h1 h2 => absurd h2 (by omega)⟩
theorem ShI.step {a o : Nat → Int} {n i : Nat} {d r : Int} (h : ShI a o n (i + 1) d r) (hi : i < n) (hd : 0 < d) (ha : 0 ≤ a i ∧ a i < 1048576) (ho : o i = (r * 1048576 + a i) / d) : ShI a o n i d ((r * 1048576 + a i) % d) := by
  obtain ⟨h1, h2, h3⟩ := h
  have h4 := Int.emod_add_mul_ediv (r * 1048576 + a i) d
  have h5 := Int.emod_nonneg (r * 1048576 + a i) (b := d) (by omega)
  have h6 := Int.emod_lt_of_pos (r * 1048576 + a i) hd
  have h7 : 0 ≤ (r * 1048576 + a i) / d := Int.ediv_nonneg (by omega) (by omega)
  have h8 : (r * 1048576 + a i) / d < 1048576 := Int.ediv_lt_of_lt_mul hd (by
    have : (r + 1) * 1048576 ≤ d * 1048576 := Int.mul_le_mul_of_nonneg_right (by omega) (by omega)
    rw [Int.mul_comm 1048576 d]
    omega)
  refine ⟨?_, ⟨h5, h6⟩, fun j h9 h10 => ?_⟩
  · rw [vT_step o hi, vT_step a hi, ← h1, ho, Int.mul_add, Int.mul_left_comm d 1048576]
    omega
  · by_cases e : j = i
    · subst e; rw [ho]; exact ⟨h7, h8⟩
    · exact h3 j (by omega) h10
theorem ShI.congr {a o o' : Nat → Int} {n i : Nat} {d r : Int} (h : ShI a o n i d r) (he : ∀ j, i ≤ j → j < n → o' j = o j) : ShI a o' n i d r := by
  refine ⟨?_, h.2.1, fun j h1 h2 => by rw [he j h1 h2]; exact h.2.2 j h1 h2⟩
  have : vT o' n i = vT o n i := vF_congr _ fun j hj => he (i + j) (by omega) (by omega)
  rw [this]; exact h.1
theorem ShI.fin {a o : Nat → Int} {n : Nat} {d r : Int} (h : ShI a o n 0 d r) : vF o n = vF a n / d ∧ r = vF a n % d ∧ Dg o n := by
  obtain ⟨h1, h2, h3⟩ := h
  rw [vT_all, vT_all] at h1
  have h4 := Int.ediv_emod_unique (a := vF a n) (b := d) (r := r) (q := vF o n) (by omega)
  obtain ⟨h5, h6⟩ := h4.2 ⟨by omega, h2.1, h2.2⟩
  exact ⟨h5.symm, h6.symm, fun i hi => h3 i (by omega) hi⟩
end Go.Proofs.YtkeajohkpmabcaaDoor
