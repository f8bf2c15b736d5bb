/- Plain law of layer 36: the greedy claims, period by period, and that no admitted claims are more in the first periods. -/
namespace Go.Proofs.Ythhmdljfklbbeaa

/-- sum of f over 0 .. n-1 -/
def sumN (f : Nat → Int) : Nat → Int
  | 0 => 0
  | n + 1 => sumN f n + f n
theorem sumN_congr {f g : Nat → Int} : ∀ n, (∀ i, i < n → f i = g i) → sumN f n = sumN g n
  | 0, _ => rfl
  | n + 1, h => by rw [sumN, sumN, sumN_congr n (fun i hi => h i (by omega)), h n (by omega)]
theorem sumN_add (f : Nat → Int) (a : Nat) : ∀ n, sumN f (a + n) = sumN f a + sumN (fun i => f (a + i)) n
  | 0 => by simp [sumN]
  | n + 1 => by rw [← Nat.add_assoc, sumN, sumN_add f a n, sumN]; omega

/-- the greatest sum of r periods one after the other, r at most the window -/
def Gw (m T : Int) (r : Nat) : Int := min T ((r : Int) * m)
theorem Gw_zero {m T : Int} (hT : 0 ≤ T) : Gw m T 0 = 0 := by unfold Gw; simp; omega
theorem Gw_succ (m T : Int) (r : Nat) : Gw m T (r + 1) = min T ((r : Int) * m + m) := by
  unfold Gw
  rw [show ((r + 1 : Nat) : Int) * m = (r : Int) * m + m by rw [Int.natCast_succ, Int.add_mul, Int.one_mul]]
theorem Gw_mono {m T : Int} (hm : 0 ≤ m) (r : Nat) : Gw m T r ≤ Gw m T (r + 1) ∧ Gw m T (r + 1) ≤ Gw m T r + m := by
  rw [Gw_succ]; unfold Gw; omega
/-- the greedy claims of a period -/
def gr (m T : Int) (W i : Nat) : Int := Gw m T (i % W + 1) - Gw m T (i % W)
theorem gr_bd {m T : Int} {W : Nat} (hm : 0 ≤ m) (i : Nat) : 0 ≤ gr m T W i ∧ gr m T W i ≤ m := by
  have := Gw_mono (T := T) hm (i % W)
  unfold gr; omega
theorem gr_block {m T : Int} {W q : Nat} (hT : 0 ≤ T) (hq : sumN (gr m T W) (q * W) = q * Gw m T W) : ∀ r, r ≤ W → sumN (gr m T W) (q * W + r) = q * Gw m T W + Gw m T r
  | 0, _ => by rw [Nat.add_zero, hq, Gw_zero hT, Int.add_zero]
  | r + 1, h => by
    rw [← Nat.add_assoc, sumN, gr_block hT hq r (by omega)]
    have e : (q * W + r) % W = r := by rw [Nat.mul_comm, Nat.mul_add_mod, Nat.mod_eq_of_lt (by omega)]
    unfold gr
    rw [e]; omega
theorem gr_sum {m T : Int} {W : Nat} (hT : 0 ≤ T) : ∀ q r, r ≤ W → sumN (gr m T W) (q * W + r) = q * Gw m T W + Gw m T r
  | 0, r, h => gr_block (q := 0) hT (by simp [sumN]) r h
  | q + 1, r, h => gr_block (q := q + 1) hT (by
      rw [Nat.succ_mul, gr_sum hT q W (Nat.le_refl _), Int.natCast_succ, Int.add_mul, Int.one_mul]) r h
theorem gr_div {m T : Int} {W : Nat} (hT : 0 ≤ T) (hW : 0 < W) (n : Nat) : sumN (gr m T W) n = ((n / W : Nat) : Int) * Gw m T W + Gw m T (n % W) := by
  have h := gr_sum (m := m) (W := W) hT (n / W) (n % W) (Nat.le_of_lt (Nat.mod_lt n hW))
  rw [Nat.mul_comm, Nat.div_add_mod] at h
  exact h
/-- where the window of a period begins -/
def wb (W i : Nat) : Nat := i + 1 - W
/-- what the window still leaves for a period, and what is claimed there -/
theorem gr_left {m T : Int} {W : Nat} (hT : 0 ≤ T) (hm : 0 ≤ m) (hW : 0 < W) (i : Nat) :
    min (T - (sumN (gr m T W) i - sumN (gr m T W) (wb W i))) m = gr m T W i ∧ 0 ≤ T - (sumN (gr m T W) i - sumN (gr m T W) (wb W i)) := by
  have hr := Nat.mod_lt i hW
  have hdm := Nat.div_add_mod i W
  have e1 := gr_div (m := m) hT hW i
  have hmul : ((i % W : Nat) : Int) * m + m ≤ (W : Int) * m := by
    have h1 : ((i % W + 1 : Nat) : Int) * m ≤ (W : Int) * m := Int.mul_le_mul_of_nonneg_right (by omega) hm
    rw [Int.natCast_succ, Int.add_mul, Int.one_mul] at h1
    exact h1
  have hnn : 0 ≤ ((i % W : Nat) : Int) * m := Int.mul_nonneg (by omega) hm
  by_cases hq : i / W = 0
  · have hlt : i < W := (Nat.div_eq_zero_iff_lt hW).1 hq
    have e0 : sumN (gr m T W) (wb W i) = 0 := by
      have : wb W i = 0 := by unfold wb; omega
      rw [this]; rfl
    rw [e1, e0, hq]
    unfold gr
    rw [Gw_succ]
    unfold Gw
    generalize ((i % W : Nat) : Int) * m = x at *
    simp only [Int.natCast_zero, Int.zero_mul]
    omega
  · obtain ⟨q, hq'⟩ : ∃ q, i / W = q + 1 := Nat.exists_eq_succ_of_ne_zero hq
    have hwb : wb W i = q * W + (i % W + 1) := by
      unfold wb
      rw [hq', Nat.mul_add, Nat.mul_one, Nat.mul_comm] at hdm
      omega
    have e2 := gr_sum (m := m) (W := W) hT q (i % W + 1) (by omega)
    rw [← hwb] at e2
    rw [e1, e2, hq']
    rw [Int.natCast_succ, Int.add_mul, Int.one_mul]
    unfold gr
    rw [Gw_succ]
    unfold Gw
    generalize ((i % W : Nat) : Int) * m = x at *
    generalize (W : Int) * m = y at *
    generalize (q : Int) * min T y = z at *
    omega

/-- the greatest sum of claims -/
theorem le_gr {m T : Int} {W : Nat} {s : Nat → Int} (hT : 0 ≤ T) (hm : 0 ≤ m) (hW : 0 < W) {N : Nat} (hs : ∀ i, i < N → s i ≤ m) (hw : ∀ a r, a + r ≤ N → r ≤ W → sumN (fun i => s (a + i)) r ≤ T) : ∀ n, n ≤ N → sumN s n ≤ sumN (gr m T W) n := by
  have hb : ∀ a r, a + r ≤ N → r ≤ W → sumN (fun i => s (a + i)) r ≤ Gw m T r := fun a r h1 h2 => by
    have h3 := hw a r h1 h2
    have h4 : ∀ r, a + r ≤ N → sumN (fun i => s (a + i)) r ≤ (r : Int) * m := fun r => by
      induction r with
      | zero => intro _; simp [sumN]
      | succ r ih =>
        intro h
        have h5 := ih (by omega)
        have h6 := hs (a + r) (by omega)
        rw [sumN, Int.natCast_succ, Int.add_mul, Int.one_mul]
        omega
    have h5 := h4 r h1
    unfold Gw; omega
  have hq : ∀ q r, r ≤ W → q * W + r ≤ N → sumN s (q * W + r) ≤ q * Gw m T W + Gw m T r := by
    intro q
    induction q with
    | zero =>
      intro r h1 h2
      have := hb 0 r (by omega) h1
      simp only [Nat.zero_mul, Nat.zero_add] at this ⊢
      simpa using this
    | succ q ih =>
      intro r h1 h2
      rw [Nat.succ_mul] at h2 ⊢
      have h3 := ih W (Nat.le_refl _) (by omega)
      have h4 := hb (q * W + W) r h2 h1
      rw [sumN_add, Int.natCast_succ, Int.add_mul, Int.one_mul]
      omega
  intro n hn
  rw [gr_div hT hW]
  have h := hq (n / W) (n % W) (Nat.le_of_lt (Nat.mod_lt n hW)) (by rw [Nat.mul_comm, Nat.div_add_mod]; exact hn)
  rw [Nat.mul_comm, Nat.div_add_mod] at h
  exact h
/-- the formula of the program -/
theorem min_most {m T : Int} (hT : 0 ≤ T) (hm : 0 ≤ m) (r : Nat) : min T ((r : Int) * min m T) = Gw m T r := by
  unfold Gw
  by_cases h : m ≤ T
  · have e : min m T = m := by omega
    rw [e]
  · have e : min m T = T := by omega
    rw [e]
    cases r with
    | zero => simp
    | succ r =>
      have h1 : 0 ≤ (r : Int) * T := Int.mul_nonneg (by omega) hT
      have h2 : 0 ≤ (r : Int) * m := Int.mul_nonneg (by omega) hm
      rw [Int.natCast_succ, Int.add_mul, Int.one_mul, Int.add_mul, Int.one_mul]
      omega
end Go.Proofs.Ythhmdljfklbbeaa
