/- Plain law of layer 7: Lagrange's value by the program and Newton's by the reference are the value of the one polynomial through the points, in the field of the shares, for different places from 0 to 20. -/
import Derived.Test.YtfidjhhpcjmioaaAlg
import Derived.Test.YtfidjhhpcjmioaaFld
namespace Go.Proofs.Ytfidjhhpcjmioaa
open Alg

/-- a number in the field -/
def ph (n : Int) : Fp := Fin.ofNat 2147483647 (n % 2147483647).toNat
theorem ph_val (n : Int) : ((ph n).val : Int) = n % 2147483647 := by
  show (((n % 2147483647).toNat % 2147483647 : Nat) : Int) = _
  omega
theorem ph_ext {a b : Int} : ph a = ph b ↔ a % 2147483647 = b % 2147483647 := by
  rw [← ph_val, ← ph_val]
  constructor
  · intro h; rw [h]
  · intro h; exact Fin.ext (by omega)
theorem ph_inj {a b : Int} (ha : 0 ≤ a ∧ a < 2147483647) (hb : 0 ≤ b ∧ b < 2147483647) (h : ph a = ph b) : a = b := by
  have := ph_ext.1 h; omega
theorem ph_add (a b : Int) : ph (a + b) = ph a + ph b := by
  apply Fin.ext
  have h1 := ph_val (a + b); have h2 := ph_val a; have h3 := ph_val b
  rw [Fin.val_add]
  omega
theorem ph_mul (a b : Int) : ph (a * b) = ph a * ph b := by
  apply Fin.ext
  have h1 := ph_val (a * b); have h2 := ph_val a; have h3 := ph_val b
  rw [Fin.val_mul]
  rw [Int.mul_emod, ← h2, ← h3] at h1
  have h4 : (((ph a).val * (ph b).val : Nat) : Int) = ((ph a).val : Int) * ((ph b).val : Int) := Int.natCast_mul _ _
  rw [← h4] at h1
  omega
theorem ph_zero : ph 0 = 0 := rfl
theorem ph_one : ph 1 = 1 := rfl
theorem ph_neg (a : Int) : ph (-a) = -ph a := by
  have h := ph_add a (-a)
  rw [show a + -a = 0 by omega, ph_zero] at h
  grind
theorem ph_sub (a b : Int) : ph (a - b) = ph a - ph b := by
  rw [Int.sub_eq_add_neg, ph_add, ph_neg]; grind
theorem ph_mod (a : Int) : ph (a % 2147483647) = ph a := ph_ext.2 (Int.emod_emod_of_dvd _ (Int.dvd_refl _))

/-- a fast power -/
def fpow : Nat → Int → Nat → Int → Int
  | 0, _, _, o => o
  | f + 1, a, n, o => fpow f (a * a % 2147483647) (n / 2) (if n % 2 = 1 then o * a % 2147483647 else o)
theorem fpow_eq : ∀ (f : Nat) (a : Int) (n : Nat) (o : Int), n < 2 ^ f → fpow f a n o % 2147483647 = o * a ^ n % 2147483647
  | 0, a, n, o, h => by
    have : n = 0 := by omega
    subst this; simp [fpow]
  | f + 1, a, n, o, h => by
    rw [fpow, fpow_eq f _ _ _ (by rw [Nat.pow_succ] at h; omega)]
    split
    · rename_i h1
      have := pow_step_odd a o n (n / 2) (by omega)
      simpa using this
    · rename_i h1
      have := pow_step_even a o n (n / 2) (by omega)
      simpa using this
/-- d to the power of the prime less 2 is its inverse -/
def Upw (d : Int) : Prop := pw d 2147483645 * d % 2147483647 = 1
theorem upw_mul {a b : Int} (ha : Upw a) (hb : Upw b) : Upw (a * b) := by
  unfold Upw pw at *
  generalize (2147483645 : Int).toNat = k at *
  rw [Int.mul_emod, Int.emod_emod_of_dvd _ (Int.dvd_refl _), ← Int.mul_emod] at ha hb ⊢
  have : (a * b) ^ k * (a * b) = (a ^ k * a) * (b ^ k * b) := by
    rw [Int.mul_pow, Int.mul_assoc, Int.mul_assoc, Int.mul_left_comm (b ^ k)]
  rw [this, Int.mul_emod, ha, hb]; rfl
theorem upw_fast {d : Int} (h : fpow 31 d 2147483645 1 * d % 2147483647 = 1) : Upw d := by
  unfold Upw pw
  have e := fpow_eq 31 d 2147483645 1 (by decide)
  rw [Int.one_mul] at e
  have e2 : ((2147483645 : Int).toNat) = 2147483645 := rfl
  rw [e2, ← e, Int.mul_emod, Int.emod_emod_of_dvd _ (Int.dvd_refl _), ← Int.mul_emod]
  exact h
def smallOk (d : Int) : Bool := d == 0 || (fpow 31 d 2147483645 1 * d % 2147483647 == 1 && invF (d % 2147483647) * d % 2147483647 == 1)
theorem small_all : (List.range 41).all (fun i => smallOk ((i : Int) - 20)) = true := by decide +kernel
theorem small_one {d : Int} (h1 : -20 ≤ d) (h2 : d ≤ 20) (h3 : d ≠ 0) : Upw d ∧ invF (d % 2147483647) * d % 2147483647 = 1 := by
  have h := List.all_eq_true.1 small_all (d + 20).toNat (List.mem_range.2 (by omega))
  have e : (((d + 20).toNat : Nat) : Int) - 20 = d := by omega
  rw [e] at h
  simp only [smallOk, Bool.or_eq_true, Bool.and_eq_true, beq_iff_eq] at h
  rcases h with h | h
  · exact absurd h h3
  · exact ⟨upw_fast h.1, h.2⟩

/-- places from 0 to 20 that are different -/
def Pts (X : Nat → Int) (n : Nat) : Prop := (∀ i, i < n → 0 ≤ X i ∧ X i ≤ 20) ∧ ∀ i j, i < n → j < n → X i = X j → i = j
theorem Pts.diff {X : Nat → Int} {n : Nat} (h : Pts X n) {i j : Nat} (hi : i < n) (hj : j < n) (hij : i ≠ j) : -20 ≤ X i - X j ∧ X i - X j ≤ 20 ∧ X i - X j ≠ 0 := by
  have h1 := h.1 i hi
  have h2 := h.1 j hj
  have h3 : X i ≠ X j := fun e => hij (h.2 i j hi hj e)
  omega
theorem Pts.apart {X : Nat → Int} {n : Nat} (h : Pts X n) : Apart n (fun i => ph (X i)) := fun i j hi hj hij => by
  obtain ⟨a, b, c⟩ := h.diff hi hj hij
  refine ⟨ph (invF ((X i - X j) % 2147483647)), ?_⟩
  rw [← ph_sub, ← ph_mul, ← ph_one, ph_ext]
  exact (small_one a b c).2
theorem upw_prodE {f : Nat → Int} {i : Nat} : ∀ n : Nat, (∀ j, j < n → j ≠ i → Upw (f j)) → Upw (prodE f i n)
  | 0, _ => upw_fast (d := 1) (by decide)
  | n + 1, h => by
    rw [prodE]
    split
    · exact upw_prodE n fun j hj hi => h j (by omega) hi
    · rename_i e
      exact upw_mul (upw_prodE n fun j hj hi => h j (by omega) hi) (h n (by omega) e)
theorem ph_prodE (f : Nat → Int) (i : Nat) : ∀ n, ph (prodE f i n) = prodR (fun k => ph (f k)) i n
  | 0 => ph_one
  | n + 1 => by
    rw [prodE, prodR]
    split
    · exact ph_prodE f i n
    · rw [ph_mul, ph_prodE f i n]
theorem ph_sumN (f : Nat → Int) : ∀ n, ph (sumN f n) = sumR (fun k => ph (f k)) n
  | 0 => ph_zero
  | n + 1 => by rw [sumN, sumR, ph_add, ph_sumN f n]
theorem lagV_lag (X Y : Nat → Int) (n : Nat) (t : Int) : ph (lagV X Y n t) = lag (fun i => ph (X i)) (fun i => ph (Y i)) (fun i => ph (pw (prodE (fun k => X i - X k) i n) 2147483645)) n (ph t) := by
  unfold lagV lag
  rw [ph_mod, ph_sumN]
  congr 1
  funext i
  simp only [lagT]
  rw [ph_mul, ph_mul, ph_prodE]
  simp only [ph_sub]
theorem lagV_bd (X Y : Nat → Int) (n : Nat) (t : Int) : 0 ≤ lagV X Y n t ∧ lagV X Y n t < 2147483647 := mod_bd _
/-- the value of Lagrange's polynomial is that of each polynomial function through the points -/
theorem lagV_poly {X Y : Nat → Int} {n : Nat} (h : Pts X n) {g : Fp → Fp} (hg : IsP n g) (hy : ∀ i, i < n → ph (Y i) = g (ph (X i))) (t : Int) : ph (lagV X Y n t) = g (ph t) := by
  rw [lagV_lag]
  refine uniq (lag_isP _ _ _ n) hg h.apart (fun i hi => ?_) _
  rw [lag_at _ _ _ n ?_ i hi, hy i hi]
  intro j hj
  have hu : Upw (prodE (fun k => X j - X k) j n) := upw_prodE n fun k hk hkj => by
    obtain ⟨a, b, c⟩ := h.diff hj hk (fun e => hkj e.symm)
    exact (small_one a b c).1
  have e : prodR (fun k => ph (X j) - ph (X k)) j n = ph (prodE (fun k => X j - X k) j n) := by
    rw [ph_prodE]; simp only [ph_sub]
  rw [e, ← ph_mul, ← ph_one, ph_ext, Int.mul_comm]
  exact hu
theorem lagV_isP (X Y : Nat → Int) (n : Nat) : ∃ g, IsP n g ∧ ∀ t, ph (lagV X Y n t) = g (ph t) := ⟨_, lag_isP _ _ _ n, fun t => lagV_lag X Y n t⟩
theorem lagV_at {X Y : Nat → Int} {n : Nat} (h : Pts X n) (i : Nat) (hi : i < n) : ph (lagV X Y n (X i)) = ph (Y i) := by
  rw [lagV_lag, lag_at _ _ _ n ?_ i hi]
  intro j hj
  have hu : Upw (prodE (fun k => X j - X k) j n) := upw_prodE n fun k hk hkj => by
    obtain ⟨a, b, c⟩ := h.diff hj hk (fun e => hkj e.symm)
    exact (small_one a b c).1
  have e : prodR (fun k => ph (X j) - ph (X k)) j n = ph (prodE (fun k => X j - X k) j n) := by
    rw [ph_prodE]; simp only [ph_sub]
  rw [e, ← ph_mul, ← ph_one, ph_ext, Int.mul_comm]
  exact hu

/-! Newton -/
theorem dd_stop (X Y : Nat → Int) (i : Nat) : ∀ s, i ≤ s → dd X Y s i = dd X Y i i
  | 0, h => by rw [show i = 0 by omega]
  | s + 1, h => by
    by_cases e : i = s + 1
    · rw [e]
    · rw [dd, if_pos (by omega), dd_stop X Y i s (by omega)]
theorem ph_nwt (d X : Nat → Int) (t : Int) (n : Nat) : ∀ m, ph (nwt d X t n m) = nH (fun i => ph (d i)) (fun i => ph (X i)) (ph t) n m
  | 0 => ph_zero
  | m + 1 => by rw [nwt, nH, ph_mod, ph_add, ph_mul, ph_nwt d X t n m, ph_mod, ph_sub]
theorem nH_congr {d d' x : Nat → Fp} {t : Fp} {n : Nat} (h : ∀ i, i < n → d i = d' i) : ∀ m, m ≤ n → nH d x t n m = nH d' x t n m
  | 0, _ => rfl
  | m + 1, hm => by rw [nH, nH, nH_congr h m (by omega), h _ (by omega)]
/-- Newton's value is that of each polynomial function through the points -/
theorem nwt_poly {X Y d : Nat → Int} {n : Nat} (hn : 0 < n) (hd : ∀ i, i < n → d i = dd X Y (n - 1) i) (h : Pts X n) {g : Fp → Fp} (hg : IsP n g) (hy : ∀ i, i < n → ph (Y i) = g (ph (X i))) (t : Int) : ph (nwt d X t n n) = g (ph t) := by
  have hrel : ∀ s i, s + 1 ≤ i → i < n → ph (dd X Y (s + 1) i) * (ph (X i) - ph (X (i - (s + 1)))) = ph (dd X Y s i) - ph (dd X Y s (i - 1)) := by
    intro s i h1 h2
    rw [dd, if_neg (by omega), ph_mod, ph_mul, ph_mod, ph_sub, ← ph_sub (X i)]
    obtain ⟨a, b, c⟩ := h.diff (i := i) (j := i - (s + 1)) h2 (by omega) (by omega)
    have hu : ph (invF ((X i - X (i - (s + 1))) % 2147483647)) * ph (X i - X (i - (s + 1))) = 1 := by
      rw [← ph_mul, ← ph_one, ph_ext]; exact (small_one a b c).2
    grind
  have e1 : ∀ t, ph (nwt d X t n n) = nT (fun s i => ph (dd X Y s i)) (fun i => ph (X i)) 0 (ph t) (n - 1) := fun t => by
    rw [ph_nwt, nH_congr (d' := fun i => ph (dd X Y i i)) (fun i hi => by rw [hd i hi, dd_stop X Y i (n - 1) (by omega)]) n (Nat.le_refl _)]
    exact nH_eq (fun s i => ph (dd X Y s i)) _ _ n hn
  rw [e1]
  have hp := nT_isP (fun s i => ph (dd X Y s i)) (fun i => ph (X i)) (n - 1)
  rw [show n - 1 + 1 = n by omega] at hp
  refine uniq hp hg h.apart (fun i hi => ?_) _
  rw [nT_stop _ _ i (n - 1) (by omega)]
  have h2 := nT_at (fun s i => ph (dd X Y s i)) (fun i => ph (X i)) (fun i => ph (Y i)) n (fun i => rfl) hrel i 0 (by omega)
  rw [Nat.zero_add] at h2
  exact h2.trans (hy i hi)
/-- the program's value and the reference's -/
theorem nwt_lagV {X Y d : Nat → Int} {n : Nat} (hn : 0 < n) (hd : ∀ i, i < n → d i = dd X Y (n - 1) i) (h : Pts X n) (t : Int) : nwt d X t n n = lagV X Y n t := by
  obtain ⟨g, hg, he⟩ := lagV_isP X Y n
  refine ph_inj (nwt_bd _ _ _ _ _) (lagV_bd _ _ _ _) ?_
  rw [nwt_poly hn hd h hg (fun i hi => by rw [← he, lagV_at h i hi]) t, he]
end Go.Proofs.Ytfidjhhpcjmioaa
