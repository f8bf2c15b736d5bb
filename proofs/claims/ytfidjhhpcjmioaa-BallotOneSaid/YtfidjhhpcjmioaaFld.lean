/- Plain arithmetic modulo the prime of the shares: sums and products over indices. No condition. -/
namespace Go.Proofs.Ytfidjhhpcjmioaa

/-- sum of f over 0 .. n-1 -/
def sumN (f : Nat → Int) : Nat → Int
  | 0 => 0
  | n + 1 => sumN f n + f n
/-- product of f over 0 .. n-1, but for i -/
def prodE (f : Nat → Int) (i : Nat) : Nat → Int
  | 0 => 1
  | n + 1 => if n = i then prodE f i n else prodE f i n * f n

theorem step_mul (u d : Int) : u % 2147483647 * (d % 2147483647) % 2147483647 = u * d % 2147483647 := by
  rw [← Int.mul_emod]
theorem step_add (u d : Int) : (u % 2147483647 + d) % 2147483647 = (u + d) % 2147483647 := by
  omega
theorem mul_bd {a b : Int} (h1 : 0 ≤ a) (h2 : a < 2147483647) (h3 : 0 ≤ b) (h4 : b < 2147483647) : 0 ≤ a * b ∧ a * b ≤ 4611686009837453316 := by
  refine ⟨Int.mul_nonneg h1 h3, ?_⟩
  have := Int.mul_le_mul (show a ≤ 2147483646 by omega) (show b ≤ 2147483646 by omega) h3 (by omega)
  omega
theorem mod_bd (a : Int) : 0 ≤ a % 2147483647 ∧ a % 2147483647 < 2147483647 := ⟨Int.emod_nonneg _ (by omega), Int.emod_lt_of_pos _ (by omega)⟩

theorem tmod_mod (n : Int) : (n.tmod 2147483647 + 2147483647) % 2147483647 = n % 2147483647 := by
  have h := Int.mul_tdiv_add_tmod n 2147483647
  generalize n.tdiv 2147483647 = q at *
  omega
theorem pow_mod (a : Int) (k : Nat) : (a % 2147483647) ^ k % 2147483647 = a ^ k % 2147483647 := by
  induction k with
  | zero => simp
  | succ k ih => rw [Int.pow_succ, Int.pow_succ, Int.mul_emod, ih, Int.emod_emod_of_dvd _ (Int.dvd_refl _), ← Int.mul_emod]
theorem sq_pow (a : Int) (k : Nat) : (a * a) ^ k = a ^ (2 * k) := by
  induction k with
  | zero => simp
  | succ k ih => rw [Int.pow_succ, ih, show 2 * (k + 1) = 2 * k + 1 + 1 by omega, Int.pow_succ, Int.pow_succ, Int.mul_assoc]
theorem pow_step_odd (a o n : Int) (k : Nat) (hk : n = 2 * (k : Int) + 1) : (o * a % 2147483647) * (a * a % 2147483647) ^ k % 2147483647 = o * a ^ n.toNat % 2147483647 := by
  have e : n.toNat = 2 * k + 1 := by omega
  rw [e, Int.mul_emod, Int.emod_emod_of_dvd _ (Int.dvd_refl _), pow_mod, ← Int.mul_emod, sq_pow, Int.pow_succ]
  congr 1
  rw [Int.mul_assoc, Int.mul_comm a]
theorem pow_step_even (a o n : Int) (k : Nat) (hk : n = 2 * (k : Int)) : o * (a * a % 2147483647) ^ k % 2147483647 = o * a ^ n.toNat % 2147483647 := by
  have e : n.toNat = 2 * k := by omega
  rw [e, Int.mul_emod, pow_mod, ← Int.mul_emod, sq_pow]
theorem prodE_hit (f : Nat → Int) (i : Nat) : prodE f i (i + 1) = prodE f i i := by simp [prodE]
theorem prodE_miss (f : Nat → Int) (i n : Nat) (h : n ≠ i) : prodE f i (n + 1) = prodE f i n * f n := by simp [prodE, h]
/-- the power modulo the prime -/
def pw (a n : Int) : Int := a ^ n.toNat % 2147483647
theorem pw_bd (a n : Int) : 0 ≤ pw a n ∧ pw a n < 2147483647 := mod_bd _
/-- X and Y of the share at a place -/
def fx (l : List (Int × Int)) (k : Nat) : Int := (l.getD k (0, 0)).1
def fy (l : List (Int × Int)) (k : Nat) : Int := (l.getD k (0, 0)).2
theorem fx_eq {l : List (Int × Int)} {k : Nat} {x y : Int} (h : l[k]? = some (x, y)) : fx l k = x := by simp [fx, List.getD, h]
theorem fy_eq {l : List (Int × Int)} {k : Nat} {x y : Int} (h : l[k]? = some (x, y)) : fy l k = y := by simp [fy, List.getD, h]
/-- one summand of the value at a place of the polynomial of the least degree through points -/
def lagT (X Y : Nat → Int) (n : Nat) (at_ : Int) (i : Nat) : Int := Y i * prodE (fun t => at_ - X t) i n * pw (prodE (fun t => X i - X t) i n) 2147483645
/-- the value at a place of the polynomial of the least degree through the points -/
def lagV (X Y : Nat → Int) (n : Nat) (at_ : Int) : Int := sumN (lagT X Y n at_) n % 2147483647
theorem lag_step {S U D sm u d : Int} (hs : sm = S % 2147483647) (hu : u = U % 2147483647) (hd : d = D % 2147483647) : (sm + u * pw d 2147483645) % 2147483647 = (S + U * pw D 2147483645) % 2147483647 := by
  have e : pw d 2147483645 = pw D 2147483645 := by rw [hd]; exact pow_mod _ _
  rw [e, hs, hu, Int.add_emod, Int.mul_emod, Int.emod_emod_of_dvd _ (Int.dvd_refl _), Int.emod_emod_of_dvd _ (Int.dvd_refl _), ← Int.mul_emod, ← Int.add_emod]
/-- the numbers of a seed -/
def rnd (s : Int) : Nat → Int
  | 0 => s % 2147483648
  | i + 1 => (1103515245 * rnd s i + 12345) % 2147483648
theorem rnd_bd (s : Int) (i : Nat) : 0 ≤ rnd s i ∧ rnd s i < 2147483648 := by cases i <;> simp only [rnd] <;> omega
theorem tmod31 (n : Int) : n.tmod 2147483648 % 2147483648 = n % 2147483648 := by
  have h := Int.mul_tdiv_add_tmod n 2147483648
  generalize n.tdiv 2147483648 = q at *
  omega
theorem tmod31' (n : Int) : (n.tmod 2147483648 + 2147483648) % 2147483648 = n % 2147483648 := by
  rw [Int.add_emod_right, tmod31]
/-- the factors of the polynomial of a secret -/
def coef (secret s : Int) (i : Nat) : Int := if i = 0 then secret else rnd s i % 2147483647
theorem coef_bd (secret s : Int) (i : Nat) (h : 0 ≤ secret ∧ secret < 2147483647) : 0 ≤ coef secret s i ∧ coef secret s i < 2147483647 := by
  unfold coef; split
  · exact h
  · exact mod_bd _
/-- the value of a polynomial with k factors, by Horner, after m steps from the highest on -/
def hor (c : Nat → Int) (t : Int) (k : Nat) : Nat → Int
  | 0 => 0
  | m + 1 => (hor c t k m * t + c (k - 1 - m)) % 2147483647
theorem hor_bd (c : Nat → Int) (t : Int) (k m : Nat) : 0 ≤ hor c t k m ∧ hor c t k m < 2147483647 := by
  cases m <;> simp only [hor] <;> first | omega | exact mod_bd _
/-- a number of the field -/
def inF (n : Int) : Bool := decide (0 ≤ n) && decide (n < 2147483647)
/-- the shares -/
def splitL (secret k s : Int) (n : Nat) : List (Int × Int) := (List.range n).map fun (i : Nat) => ((i : Int) + 1, hor (coef secret s) ((i : Int) + 1) k.toNat k.toNat)
def splitBad (secret k n : Int) : Bool := !inF secret || decide (n < 1) || decide (20 < n) || decide (k < 1) || decide (n < k)
/-- the reference's inverse: Euclid's algorithm, with fuel -/
def invL : Nat → Int → Int → Int → Int → Int
  | 0, _, _, x, _ => x
  | f + 1, a, b, x, y => if 0 < b then invL f b (a - a / b * b) y ((x - a / b * y) % 2147483647) else x
def invF (n : Int) : Int := invL (n.toNat + 1) 2147483647 n 0 1
theorem invL_more : ∀ (f g : Nat) (a b x y : Int), 0 ≤ b → b.toNat < f → b.toNat < g → invL f a b x y = invL g a b x y
  | 0, _, _, _, _, _, _, h, _ => by omega
  | _ + 1, 0, _, _, _, _, _, _, h => by omega
  | f + 1, g + 1, a, b, x, y, hb, hf, hg => by
    rw [invL, invL]
    split
    · rename_i h
      have h1 := Int.emod_nonneg a (show b ≠ 0 by omega)
      have h2 := Int.emod_lt_of_pos a h
      have e : a - a / b * b = a % b := by have := Int.emod_def a b; rw [Int.mul_comm] at this; omega
      rw [e]
      exact invL_more f g _ _ _ _ h1 (by omega) (by omega)
    · rfl
/-- divided differences after s steps -/
def dd (X Y : Nat → Int) : Nat → Nat → Int
  | 0, i => Y i
  | s + 1, i => if i < s + 1 then dd X Y s i else (dd X Y s i - dd X Y s (i - 1)) % 2147483647 * invF ((X i - X (i - (s + 1))) % 2147483647) % 2147483647
/-- the value of Newton's form, after m steps from the last on -/
def nwt (d X : Nat → Int) (t : Int) (n : Nat) : Nat → Int
  | 0 => 0
  | m + 1 => (nwt d X t n m * ((t - X (n - 1 - m)) % 2147483647) + d (n - 1 - m)) % 2147483647
theorem nwt_bd (d X : Nat → Int) (t : Int) (n m : Nat) : 0 ≤ nwt d X t n m ∧ nwt d X t n m < 2147483647 := by
  cases m <;> simp only [nwt] <;> first | omega | exact mod_bd _
/-- a number of a list -/
def fi (l : List Int) (k : Nat) : Int := l.getD k 0
theorem fi_eq {l : List Int} {k : Nat} {x : Int} (h : l[k]? = some x) : fi l k = x := by simp [fi, List.getD, h]
theorem invL_bd : ∀ (f : Nat) (a b x y : Int), 0 ≤ x → x < 2147483647 → 0 ≤ y → y < 2147483647 → 0 ≤ invL f a b x y ∧ invL f a b x y < 2147483647
  | 0, _, _, _, _, h1, h2, _, _ => ⟨h1, h2⟩
  | f + 1, a, b, x, y, h1, h2, h3, h4 => by
    rw [invL]
    split
    · exact invL_bd f _ _ _ _ h3 h4 (mod_bd _).1 (mod_bd _).2
    · exact ⟨h1, h2⟩
theorem invF_bd (n : Int) : 0 ≤ invF n ∧ invF n < 2147483647 := invL_bd _ _ _ _ _ (by omega) (by omega) (by omega) (by omega)
theorem dd_bd (X Y : Nat → Int) (hY : ∀ i, 0 ≤ Y i ∧ Y i < 2147483647) : ∀ s i, 0 ≤ dd X Y s i ∧ dd X Y s i < 2147483647
  | 0, i => hY i
  | s + 1, i => by
    rw [dd]
    split
    · exact dd_bd X Y hY s i
    · exact mod_bd _
/-- the reference's power of i + 1 after c rounds -/
def rpw (i : Nat) : Nat → Int
  | 0 => 1
  | c + 1 => rpw i c * ((i : Int) + 1) % 2147483647
/-- the reference's share at i + 1 after c rounds -/
def rY (secret s : Int) (i : Nat) : Nat → Int
  | 0 => secret
  | c + 1 => (rY secret s i c + rnd s (c + 1) % 2147483647 * rpw i (c + 1)) % 2147483647
theorem rpw_bd (i c : Nat) : 0 ≤ rpw i c ∧ rpw i c < 2147483647 := by
  cases c <;> simp only [rpw] <;> first | omega | exact mod_bd _
theorem rY_bd (secret s : Int) (i c : Nat) (h : 0 ≤ secret ∧ secret < 2147483647) : 0 ≤ rY secret s i c ∧ rY secret s i c < 2147483647 := by
  cases c <;> simp only [rY] <;> first | exact h | exact mod_bd _
end Go.Proofs.Ytfidjhhpcjmioaa
