/- Plain algebra over the field of the shares: polynomial functions, interpolation by Lagrange and by Newton, and that a polynomial function of so small a degree is fixed by its values. Differences of places are units. -/
namespace Go.Proofs.Ytfidjhhpcjmioaa.Alg
/-- the field of the shares -/
abbrev Fp := Fin 2147483647

/-- a polynomial function of a degree less than n -/
def IsP : Nat → (Fp → Fp) → Prop
  | 0, f => ∀ t, f t = 0
  | n + 1, f => ∃ b g, IsP n g ∧ ∀ t, f t = b + t * g t

theorem IsP.congr : ∀ {n : Nat} {f g : Fp → Fp}, IsP n f → (∀ t, g t = f t) → IsP n g
  | 0, _, _, h, e => fun t => (e t).trans (h t)
  | _ + 1, _, _, ⟨b, q, hq, hf⟩, e => ⟨b, q, hq, fun t => (e t).trans (hf t)⟩
theorem IsP.zero : ∀ n : Nat, IsP n (fun _ : Fp => 0)
  | 0 => fun _ => rfl
  | n + 1 => ⟨0, fun _ => 0, IsP.zero n, fun t => by grind⟩
theorem IsP.up : ∀ {n : Nat} {f : Fp → Fp}, IsP n f → IsP (n + 1) f
  | 0, f, h => ⟨0, fun _ => 0, fun _ => rfl, fun t => by rw [h t]; grind⟩
  | _ + 1, _, ⟨b, g, hg, hf⟩ => ⟨b, g, hg.up, hf⟩
theorem IsP.le {n m : Nat} {f : Fp → Fp} (h : IsP n f) (hm : n ≤ m) : IsP m f := by
  induction hm with
  | refl => exact h
  | step _ ih => exact ih.up
theorem IsP.add : ∀ {n : Nat} {f g : Fp → Fp}, IsP n f → IsP n g → IsP n (fun t => f t + g t)
  | 0, _, _, h, k => fun t => by show _ + _ = _; rw [h t, k t]; grind
  | _ + 1, _, _, ⟨b, p, hp, hf⟩, ⟨c, q, hq, hg⟩ => ⟨b + c, _, hp.add hq, fun t => by show _ + _ = _; rw [hf t, hg t]; grind⟩
theorem IsP.smul (a : Fp) : ∀ {n : Nat} {f : Fp → Fp}, IsP n f → IsP n (fun t => a * f t)
  | 0, _, h => fun t => by show _ * _ = _; rw [h t]; grind
  | _ + 1, _, ⟨b, p, hp, hf⟩ => ⟨a * b, _, hp.smul a, fun t => by show _ * _ = _; rw [hf t]; grind⟩
theorem IsP.sub {n : Nat} {f g : Fp → Fp} (h : IsP n f) (k : IsP n g) : IsP n (fun t => f t - g t) :=
  (h.add (k.smul (-1))).congr fun t => by grind
theorem IsP.const (b : Fp) : IsP 1 (fun _ : Fp => b) := ⟨b, fun _ => 0, fun _ => rfl, fun t => by grind⟩
theorem IsP.mulX {n : Nat} {f : Fp → Fp} (h : IsP n f) : IsP (n + 1) (fun t => t * f t) := ⟨0, f, h, fun t => by grind⟩
/-- times a linear factor -/
theorem IsP.mulL {n : Nat} {f : Fp → Fp} (h : IsP n f) (a : Fp) : IsP (n + 1) (fun t => f t * (t - a)) :=
  (h.mulX.add ((h.smul (-a)).up)).congr fun t => by grind
theorem IsP.mulL' {n : Nat} {f : Fp → Fp} (h : IsP n f) (a : Fp) : IsP (n + 1) (fun t => f t * (a - t)) :=
  ((h.mulL a).smul (-1)).congr fun t => by grind

/-- the value at a place splits off -/
theorem IsP.root (a : Fp) : ∀ {n : Nat} {f : Fp → Fp}, IsP (n + 1) f → ∃ q, IsP n q ∧ ∀ t, f t = f a + (t - a) * q t
  | 0, f, ⟨b, g, hg, hf⟩ => ⟨fun _ => 0, fun _ => rfl, fun t => by rw [hf t, hf a, hg t, hg a]; grind⟩
  | n + 1, f, ⟨b, g, hg, hf⟩ => by
    obtain ⟨q, hq, hgq⟩ := hg.root a
    refine ⟨fun t => g t + a * q t, hg.add (hq.smul a).up, fun t => ?_⟩
    have h := hgq t
    rw [hf t, hf a]
    grind

/-- differences of places are units -/
def Apart (n : Nat) (x : Nat → Fp) : Prop := ∀ i j, i < n → j < n → i ≠ j → ∃ u, u * (x i - x j) = 1

theorem zero_of_zeros : ∀ (n : Nat) (f : Fp → Fp) (x : Nat → Fp), IsP n f → Apart n x → (∀ i, i < n → f (x i) = 0) → ∀ t, f t = 0
  | 0, _, _, h, _, _ => h
  | n + 1, f, x, h, ha, hz => by
    obtain ⟨q, hq, hf⟩ := h.root (x 0)
    have h0 := hz 0 (by omega)
    have hq0 := zero_of_zeros n q (fun i => x (i + 1)) hq (fun i j hi hj hij => ha _ _ (by omega) (by omega) (by omega)) (fun i hi => by
      obtain ⟨u, hu⟩ := ha (i + 1) 0 (by omega) (by omega) (by omega)
      have h1 := hz (i + 1) (by omega)
      rw [hf, h0] at h1
      have : u * ((x (i + 1) - x 0) * q (x (i + 1))) = 0 := by grind
      have e : u * ((x (i + 1) - x 0) * q (x (i + 1))) = (u * (x (i + 1) - x 0)) * q (x (i + 1)) := by grind
      rw [e, hu] at this
      grind)
    intro t
    rw [hf t, h0, hq0 t]
    grind
/-- a polynomial function is fixed by its values -/
theorem uniq {n : Nat} {f g : Fp → Fp} {x : Nat → Fp} (hf : IsP n f) (hg : IsP n g) (ha : Apart n x) (h : ∀ i, i < n → f (x i) = g (x i)) (t : Fp) : f t = g t := by
  have := zero_of_zeros n (fun t => f t - g t) x (hf.sub hg) ha (fun i hi => by rw [h i hi]; grind) t
  grind

/-- sum and product over indices -/
def sumR (f : Nat → Fp) : Nat → Fp
  | 0 => 0
  | n + 1 => sumR f n + f n
def prodR (f : Nat → Fp) (i : Nat) : Nat → Fp
  | 0 => 1
  | n + 1 => if n = i then prodR f i n else prodR f i n * f n
def prodA (f : Nat → Fp) : Nat → Fp
  | 0 => 1
  | n + 1 => prodA f n * f n

theorem IsP.sumR {F : Nat → Fp → Fp} {m : Nat} : ∀ n : Nat, (∀ i, i < n → IsP m (F i)) → IsP m (fun t => sumR (fun i => F i t) n)
  | 0, _ => IsP.zero m
  | n + 1, h => (IsP.sumR n fun i hi => h i (by omega)).add (h n (by omega))
theorem sumR_one {f : Nat → Fp} {j : Nat} : ∀ n : Nat, j < n → (∀ i, i < n → i ≠ j → f i = 0) → sumR f n = f j
  | 0, h, _ => by omega
  | n + 1, h, hz => by
    rw [sumR]
    by_cases e : j = n
    · subst e
      have : ∀ m, m ≤ j → sumR f m = 0 := fun m => by
        induction m with
        | zero => intro _; rfl
        | succ m ih => intro hm; rw [sumR, ih (by omega), hz m (by omega) (by omega)]; grind
      rw [this j (by omega)]; grind
    · rw [sumR_one n (by omega) (fun i hi hij => hz i (by omega) hij), hz n (by omega) (fun e2 => e e2.symm)]; grind
/-- the product of n linear factors without the i-th -/
theorem IsP.prodR (x : Nat → Fp) (i : Nat) : ∀ n : Nat, IsP (if i < n then n else n + 1) (fun t => Alg.prodR (fun k => t - x k) i n)
  | 0 => by rw [if_neg (by omega)]; exact (IsP.const (1 : Fp)).congr fun _ => rfl
  | n + 1 => by
    have ih := IsP.prodR x i n
    by_cases e : n = i
    · subst e
      simp only [Nat.lt_irrefl, if_false] at ih
      rw [if_pos (by omega)]
      exact ih.congr fun t => by simp [Alg.prodR]
    · by_cases h : i < n
      · rw [if_pos h] at ih
        rw [if_pos (by omega)]
        exact (ih.mulL (x n)).congr fun t => by simp [Alg.prodR, e]
      · rw [if_neg h] at ih
        rw [if_neg (by omega)]
        exact (ih.mulL (x n)).congr fun t => by simp [Alg.prodR, e]
theorem prodR_zero {f : Nat → Fp} {i j : Nat} : ∀ n : Nat, j < n → j ≠ i → f j = 0 → prodR f i n = 0
  | 0, h, _, _ => by omega
  | n + 1, h, hij, hf => by
    rw [prodR]
    by_cases e : j = n
    · subst e; rw [if_neg hij, hf]; grind
    · rw [prodR_zero n (by omega) hij hf]; split <;> grind
theorem prodR_unit {f : Nat → Fp} {i : Nat} : ∀ n : Nat, (∀ j, j < n → j ≠ i → ∃ u, u * f j = 1) → ∃ u, u * prodR f i n = 1
  | 0, _ => ⟨1, by simp only [prodR]; grind⟩
  | n + 1, h => by
    obtain ⟨u, hu⟩ := prodR_unit n fun j hj hi => h j (by omega) hi
    rw [prodR]
    split
    · exact ⟨u, hu⟩
    · rename_i e
      obtain ⟨v, hv⟩ := h n (by omega) e
      refine ⟨u * v, ?_⟩
      have : u * v * (prodR f i n * f n) = (u * prodR f i n) * (v * f n) := by grind
      rw [this, hu, hv]; grind

/-- Lagrange's polynomial -/
def lag (x y w : Nat → Fp) (n : Nat) (t : Fp) : Fp := sumR (fun i => y i * prodR (fun k => t - x k) i n * w i) n
theorem lag_isP (x y w : Nat → Fp) (n : Nat) : IsP n (lag x y w n) := by
  refine IsP.sumR n fun i hi => ?_
  have := IsP.prodR x i n
  rw [if_pos hi] at this
  exact (this.smul (y i * w i)).congr fun t => by grind
theorem lag_at (x y w : Nat → Fp) (n : Nat) (hw : ∀ i, i < n → prodR (fun k => x i - x k) i n * w i = 1) (j : Nat) (hj : j < n) : lag x y w n (x j) = y j := by
  unfold lag
  rw [sumR_one n hj]
  · have := hw j hj
    grind
  · intro i hi hij
    have : prodR (fun k => x j - x k) i n = 0 := prodR_zero n hj (fun e => hij e.symm) (by grind)
    rw [this]; grind

/-- Newton's form from index a on, of M + 1 summands -/
def nT (e : Nat → Nat → Fp) (x : Nat → Fp) (a : Nat) (t : Fp) : Nat → Fp
  | 0 => e 0 a
  | M + 1 => nT e x a t M + e (M + 1) (a + (M + 1)) * prodA (fun j => t - x (a + j)) (M + 1)
theorem prodA_shift (x : Nat → Fp) (a : Nat) (t : Fp) : ∀ m : Nat, prodA (fun j => t - x (a + j)) (m + 1) = (t - x a) * prodA (fun j => t - x (a + 1 + j)) m
  | 0 => by simp only [prodA, Nat.add_zero]; grind
  | m + 1 => by
    rw [prodA, prodA_shift x a t m, prodA, show a + (m + 1) = a + 1 + m by omega]; grind
theorem nT_shift (e : Nat → Nat → Fp) (x : Nat → Fp) (N : Nat) (he : ∀ s i, s + 1 ≤ i → i < N → e (s + 1) i * (x i - x (i - (s + 1))) = e s i - e s (i - 1)) (a : Nat) (t : Fp) :
    ∀ M : Nat, a + M + 1 < N → nT e x (a + 1) t M = nT e x a t M + (x (a + M + 1) - x a) * e (M + 1) (a + M + 1) * prodA (fun j => t - x (a + 1 + j)) M
  | 0, h => by
    have h1 := he 0 (a + 1) (by omega) (by omega)
    simp only [Nat.add_sub_cancel, Nat.zero_add] at h1
    simp only [nT, prodA, Nat.add_zero, Nat.zero_add]
    grind
  | M + 1, h => by
    have ih := nT_shift e x N he a t M (by omega)
    have h1 := he (M + 1) (a + (M + 1) + 1) (by omega) (by omega)
    rw [show a + (M + 1) + 1 - (M + 1 + 1) = a by omega, show a + (M + 1) + 1 - 1 = a + M + 1 by omega] at h1
    have h2 := prodA_shift x a t M
    rw [nT, nT, ih, h2, show a + 1 + (M + 1) = a + (M + 1) + 1 by omega, show a + (M + 1) = a + M + 1 by omega] at *
    simp only [prodA]
    rw [show a + 1 + M = a + M + 1 by omega]
    generalize prodA (fun j => t - x (a + 1 + j)) M = Q at *
    generalize e (M + 1) (a + M + 1 + 1) = A at *
    generalize e (M + 1 + 1) (a + M + 1 + 1) = B at *
    generalize e (M + 1) (a + M + 1) = C at *
    generalize nT e x a t M = D at *
    generalize x (a + M + 1 + 1) = E at *
    generalize x (a + M + 1) = G at *
    generalize x a = H at *
    grind
theorem nT_at (e : Nat → Nat → Fp) (x y : Nat → Fp) (N : Nat) (h0 : ∀ i, e 0 i = y i) (he : ∀ s i, s + 1 ≤ i → i < N → e (s + 1) i * (x i - x (i - (s + 1))) = e s i - e s (i - 1)) :
    ∀ (m a : Nat), a + m < N → nT e x a (x (a + m)) m = y (a + m)
  | 0, a, _ => h0 a
  | m + 1, a, h => by
    have ih := nT_at e x y N h0 he m (a + 1) (by omega)
    rw [show a + 1 + m = a + (m + 1) by omega] at ih
    have h1 := nT_shift e x N he a (x (a + (m + 1))) m (by omega)
    have h2 := prodA_shift x a (x (a + (m + 1))) m
    rw [nT, h2, ← ih, h1, show a + (m + 1) = a + m + 1 by omega]
    grind
/-- at a place of the interpolation the later summands vanish -/
theorem nT_stop (e : Nat → Nat → Fp) (x : Nat → Fp) (i : Nat) : ∀ M : Nat, i ≤ M → nT e x 0 (x i) M = nT e x 0 (x i) i
  | 0, h => by rw [show i = 0 by omega]
  | M + 1, h => by
    by_cases e1 : i = M + 1
    · rw [e1]
    · rw [nT, nT_stop e x i M (by omega)]
      have : ∀ m, i < m → prodA (fun j => x i - x (0 + j)) m = 0 := fun m => by
        induction m with
        | zero => intro h; omega
        | succ m ih =>
          intro hm
          rw [prodA]
          by_cases e2 : i = m
          · subst e2; rw [Nat.zero_add]; grind
          · rw [ih (by omega)]; grind
      rw [this (M + 1) (by omega)]; grind
theorem prodA_isP (x : Nat → Fp) : ∀ m : Nat, IsP (m + 1) (fun t => prodA (fun j => t - x (0 + j)) m)
  | 0 => (IsP.const (1 : Fp)).congr fun _ => rfl
  | m + 1 => ((prodA_isP x m).mulL (x (0 + m))).congr fun _ => rfl
theorem nT_isP (e : Nat → Nat → Fp) (x : Nat → Fp) : ∀ M : Nat, IsP (M + 1) (fun t => nT e x 0 t M)
  | 0 => (IsP.const (e 0 0)).congr fun _ => rfl
  | M + 1 => ((nT_isP e x M).up.add ((prodA_isP x (M + 1)).smul (e (M + 1) (0 + (M + 1))))).congr fun _ => rfl
/-- Newton's form by Horner, from the last on -/
def nH (d x : Nat → Fp) (t : Fp) (n : Nat) : Nat → Fp
  | 0 => 0
  | m + 1 => nH d x t n m * (t - x (n - 1 - m)) + d (n - 1 - m)
theorem nH_nT (e : Nat → Nat → Fp) (x : Nat → Fp) (t : Fp) (n : Nat) : ∀ m : Nat, m < n → nT e x 0 t (n - 1) = (if n - 1 - m = 0 then 0 else nT e x 0 t (n - 1 - m - 1)) + nH (fun i => e i i) x t n (m + 1) * prodA (fun j => t - x (0 + j)) (n - 1 - m)
  | 0, h => by
    simp only [nH, Nat.sub_zero]
    by_cases h1 : n - 1 = 0
    · rw [if_pos h1, h1]; simp only [nT, prodA]; grind
    · rw [if_neg h1]
      obtain ⟨k, hk⟩ : ∃ k, n - 1 = k + 1 := ⟨n - 2, by omega⟩
      rw [hk, Nat.add_sub_cancel, nT, Nat.zero_add]; grind
  | m + 1, h => by
    rw [nH_nT e x t n m (by omega), if_neg (by omega)]
    have e1 : n - 1 - m = n - 1 - (m + 1) + 1 := by omega
    have e2 : n - 1 - m - 1 = n - 1 - (m + 1) := by omega
    rw [e2]
    by_cases h1 : n - 1 - (m + 1) = 0
    · have e4 : n - 1 - m = 1 := by omega
      have e5 : nH (fun i => e i i) x t n (m + 1 + 1) = nH (fun i => e i i) x t n (m + 1) * (t - x (n - 1 - (m + 1))) + e (n - 1 - (m + 1)) (n - 1 - (m + 1)) := rfl
      rw [if_pos h1, e5, e4, h1]
      simp only [nT, prodA, Nat.zero_add]
      grind
    · rw [if_neg h1]
      obtain ⟨k, hk⟩ : ∃ k, n - 1 - (m + 1) = k + 1 := ⟨n - 1 - (m + 1) - 1, by omega⟩
      have e4 : n - 1 - m = k + 1 + 1 := by omega
      have e5 : nH (fun i => e i i) x t n (m + 1 + 1) = nH (fun i => e i i) x t n (m + 1) * (t - x (n - 1 - (m + 1))) + e (n - 1 - (m + 1)) (n - 1 - (m + 1)) := rfl
      have e6 : prodA (fun j => t - x (0 + j)) (k + 1 + 1) = prodA (fun j => t - x (0 + j)) (k + 1) * (t - x (k + 1)) := by rw [prodA, Nat.zero_add]
      have e7 : nT e x 0 t (k + 1) = nT e x 0 t k + e (k + 1) (k + 1) * prodA (fun j => t - x (0 + j)) (k + 1) := by rw [nT, Nat.zero_add]
      rw [e5, e4, hk, Nat.add_sub_cancel, e6, e7]
      generalize prodA (fun j => t - x (0 + j)) (k + 1) = Q
      generalize nH (fun i => e i i) x t n (m + 1) = A
      generalize nT e x 0 t k = B
      generalize e (k + 1) (k + 1) = C
      generalize x (k + 1) = D
      grind
theorem nH_eq (e : Nat → Nat → Fp) (x : Nat → Fp) (t : Fp) (n : Nat) (hn : 0 < n) : nH (fun i => e i i) x t n n = nT e x 0 t (n - 1) := by
  have h := nH_nT e x t n (n - 1) (by omega)
  rw [if_pos (by omega), show n - 1 + 1 = n by omega, show n - 1 - (n - 1) = 0 by omega] at h
  rw [h]; simp only [prodA]; grind
end Go.Proofs.Ytfidjhhpcjmioaa.Alg
