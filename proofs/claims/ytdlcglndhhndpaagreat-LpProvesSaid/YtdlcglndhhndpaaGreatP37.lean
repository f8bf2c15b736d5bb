/- Laws and walks; conditions stand in each theorem. -/
import Derived.Test.YtdlcglndhhndpaaGreatP36
import Derived.Test.YtdlcglndhhndpaaGreatP09
import Derived.Test.YtdlcglndhhndpaaGreatP21
import Derived.Test.YtdlcglndhhndpaaGreatP19
import Derived.Test.YtdlcglndhhndpaaGreatP33
set_option linter.unusedSimpArgs false
set_option linter.unusedVariables false
namespace Go.Proofs.YtdlcglndhhndpaaGreat
open Go.RowKit
def IsI (q : Rat) (B : Int) : Prop := ∃ z : Int, q = ((z : Int) : Rat) ∧ (z.natAbs : Int) ≤ B
theorem IsI.of (z : Int) : IsI ((z : Int) : Rat) z.natAbs := ⟨z, rfl, Int.le_refl _⟩
theorem IsI.mono {q : Rat} {B C : Int} (h : IsI q B) (hB : B ≤ C) : IsI q C := by
 obtain ⟨z, h1, h2⟩ := h
 exact ⟨z, h1, by omega⟩
theorem IsI.zero {B : Int} (h : 0 ≤ B) : IsI 0 B := ⟨0, rfl, h⟩
theorem IsI.one {B : Int} (h : 1 ≤ B) : IsI 1 B := ⟨1, rfl, h⟩
theorem IsI.add {x y : Rat} {A B : Int} (h : IsI x A) (h' : IsI y B) : IsI (x + y) (A + B) := by
 obtain ⟨z, rfl, h2⟩ := h
 obtain ⟨t, rfl, h4⟩ := h'
 exact ⟨z + t, (Rat.intCast_add _ _).symm, by omega⟩
theorem IsI.sub {x y : Rat} {A B : Int} (h : IsI x A) (h' : IsI y B) : IsI (x - y) (A + B) := by
 obtain ⟨z, rfl, h2⟩ := h
 obtain ⟨t, rfl, h4⟩ := h'
 exact ⟨z - t, (Rat.intCast_sub _ _).symm, by omega⟩
theorem IsI.neg {x : Rat} {A : Int} (h : IsI x A) : IsI (-x) A := by
 obtain ⟨z, rfl, h2⟩ := h
 exact ⟨-z, (Rat.intCast_neg _).symm, by omega⟩
theorem IsI.mul {x y : Rat} {A B : Int} (h : IsI x A) (h' : IsI y B) : IsI (x * y) (A * B) := by
 obtain ⟨z, rfl, h2⟩ := h
 obtain ⟨t, rfl, h4⟩ := h'
 refine ⟨z * t, (Rat.intCast_mul _ _).symm, ?_⟩
 rw [Int.natAbs_mul]
 push_cast
 exact Int.mul_le_mul h2 h4 (by omega) (by omega)
def bd4 (B : Int) : Int :=
 let t := B * (B * B + B * B) + B * (B * B + B * B) + B * (B * B + B * B)
 B * t + B * t + B * t + B * t
theorem det4_int {M : Nat → Nat → Rat} {B : Int} (h : ∀ i k, i < 4 → k < 4 → IsI (M i k) B) : IsI (det4 M) (bd4 B) := by
 have g := fun i k (hi : i < 4) (hk : k < 4) => h i k hi hk
 unfold det4 D4 bd4
 have m2 : ∀ i k i' k' j l j' l', i < 4 → k < 4 → i' < 4 → k' < 4 → j < 4 → l < 4 → j' < 4 → l' < 4 → IsI (M i k * M i' k' - M j l * M j' l') (B * B + B * B) := fun i k i' k' j l j' l' a1 a2 a3 a4 a5 a6 a7 a8 => ((g i k a1 a2).mul (g i' k' a3 a4)).sub ((g j l a5 a6).mul (g j' l' a7 a8))
 refine ((((g 0 0 (by decide) (by decide)).mul ?_).sub ((g 0 1 (by decide) (by decide)).mul ?_)).add ((g 0 2 (by decide) (by decide)).mul ?_)).sub ((g 0 3 (by decide) (by decide)).mul ?_)
 all_goals
  refine ((IsI.mul (g _ _ (by decide) (by decide)) (m2 _ _ _ _ _ _ _ _ (by decide) (by decide) (by decide) (by decide) (by decide) (by decide) (by decide) (by decide))).sub (IsI.mul (g _ _ (by decide) (by decide)) (m2 _ _ _ _ _ _ _ _ (by decide) (by decide) (by decide) (by decide) (by decide) (by decide) (by decide) (by decide)))).add (IsI.mul (g _ _ (by decide) (by decide)) (m2 _ _ _ _ _ _ _ _ (by decide) (by decide) (by decide) (by decide) (by decide) (by decide) (by decide) (by decide)))
theorem pw_step (n : Nat) : pw n * pw 1 = pw (n + 1) := by
 have e1 : pw 1 = 1048576 := rfl
 have e2 : pw (n + 1) = 1048576 * pw n := rfl
 rw [e1, e2, Int.mul_comm]
def prD (f : Nat → Rat) : Nat → Int
 | 0 => 1
 | n + 1 => prD f n * ((f n).den : Int)
theorem prD_pos (f : Nat → Rat) : ∀ n, 0 < prD f n
 | 0 => by show (0 : Int) < 1; decide
 | n + 1 => by
  rw [prD]
  exact Int.mul_pos (prD_pos f n) (den_pos _)
theorem prD_le {f : Nat → Rat} : ∀ {n : Nat}, (∀ k, k < n → Pt 1 (f k)) → prD f n ≤ pw n
 | 0, _ => Int.le_refl _
 | n + 1, h => by
  rw [prD, ← pw_step]
  have h1 := prD_le (n := n) (fun k hk => h k (by omega))
  have h2 := (h n (by omega)).2
  have h3 := prD_pos f n
  exact Int.mul_le_mul h1 (by omega) (by omega) (Int.le_of_lt (pw_pos n))
theorem rat_den (q : Rat) : q * (((q.den : Nat) : Int) : Rat) = ((q.num : Int) : Rat) := by
 have := Rat.num_divInt_den q
 have hd : (((q.den : Nat) : Int) : Rat) ≠ 0 := int_ne (den_pos q)
 rw [Rat.divInt_eq_div] at this
 generalize (((q.den : Nat) : Int) : Rat) = d at *
 generalize ((q.num : Int) : Rat) = e at *
 rw [← this]
 grind
theorem prD_int {f : Nat → Rat} : ∀ {n : Nat}, (∀ k, k < n → Pt 1 (f k)) → ∀ k, k < n → IsI (f k * ((prD f n : Int) : Rat)) (pw n)
 | 0, _, k, hk => absurd hk (by omega)
 | n + 1, h, k, hk => by
  rw [prD, Rat.intCast_mul, ← pw_step]
  have hn := h n (by omega)
  have h1 := prD_le (n := n) (fun k hk => h k (by omega))
  have h3 := prD_pos f n
  by_cases e : k = n
  · subst e
    have e2 : f k * (((prD f k : Int) : Rat) * (((f k).den : Int) : Rat)) = ((prD f k : Int) : Rat) * ((f k).num : Rat) := by
     have := rat_den (f k)
     grind
    rw [e2]
    exact ((IsI.of _).mono (by omega)).mul ((IsI.of _).mono (by have := hn.1; omega))
  · have h2 := prD_int (n := n) (fun k hk => h k (by omega)) k (by omega)
    have e2 : f k * (((prD f n : Int) : Rat) * (((f n).den : Int) : Rat)) = (f k * ((prD f n : Int) : Rat)) * (((f n).den : Int) : Rat) := by grind
    rw [e2]
    exact h2.mul ((IsI.of _).mono (by have := hn.2; omega))
def scT (n : Nat) (A : Nat → Nat → Rat) (b : Nat → Rat) (i : Nat) : Int := prD (fun k => if k < n then A i k else b i) (n + 1)
structure SmP (m n : Nat) (A : Nat → Nat → Rat) (b c : Nat → Rat) : Prop where
 m4 : m ≤ 4
 n4 : n ≤ 4
 a : ∀ i j, i < m → j < n → Pt 1 (A i j)
 b : ∀ i, i < m → Pt 1 (b i)
 c : ∀ j, j < n → Pt 1 (c j)
section
variable {m n : Nat} {A : Nat → Nat → Rat} {b c : Nat → Rat}
theorem SmP.row (h : SmP m n A b c) {i : Nat} (hi : i < m) : ∀ k, k < n + 1 → Pt 1 ((fun k => if k < n then A i k else b i) k) := fun k hk => by
 show Pt 1 (if k < n then A i k else b i)
 split
 · exact h.a i k hi (by assumption)
 · exact h.b i hi
theorem SmP.tpos (i : Nat) : 0 < scT n A b i := prD_pos _ _
theorem SmP.tle (h : SmP m n A b c) {i : Nat} (hi : i < m) : scT n A b i ≤ pw 5 := Int.le_trans (prD_le (h.row hi)) (pw_le (by have := h.n4; omega))
theorem SmP.ta (h : SmP m n A b c) {i j : Nat} (hi : i < m) (hj : j < n) : IsI (A i j * ((scT n A b i : Int) : Rat)) (pw 5) := by
 have h1 := prD_int (h.row hi) j (by omega)
 change IsI ((if j < n then A i j else b i) * ((scT n A b i : Int) : Rat)) _ at h1
 rw [if_pos hj] at h1
 exact h1.mono (pw_le (by have := h.n4; omega))
theorem SmP.tb (h : SmP m n A b c) {i : Nat} (hi : i < m) : IsI (b i * ((scT n A b i : Int) : Rat)) (pw 5) := by
 have h1 := prD_int (h.row hi) n (by omega)
 change IsI ((if n < n then A i n else b i) * ((scT n A b i : Int) : Rat)) _ at h1
 rw [if_neg (by omega)] at h1
 exact h1.mono (pw_le (by have := h.n4; omega))
theorem SmP.tcol (h : SmP m n A b c) {i : Nat} (hi : i < m) (u : Nat) : IsI (((scT n A b i : Int) : Rat) * colA n A u i) (pw 5) := by
 unfold colA
 split
 · rw [Rat.mul_comm]
   exact h.ta hi (by assumption)
 · split
   · rw [Rat.mul_one]
     exact (IsI.of _).mono (by have := h.tle hi; have := SmP.tpos (n := n) (A := A) (b := b) i; omega)
   · rw [Rat.mul_zero]
     exact IsI.zero (Int.le_of_lt (pw_pos 5))
theorem padM_int {M : Nat → Nat → Rat} {B : Int} (hB : 1 ≤ B) (h : ∀ i k, i < m → k < m → IsI (M i k) B) : ∀ i k, i < 4 → k < 4 → IsI (padM m M i k) B := fun i k _ _ => by
 unfold padM
 split
 · rename_i e; exact h i k e.1 e.2
 · split
   · exact IsI.one hB
   · exact IsI.zero (by omega)
abbrev tR (n : Nat) (A : Nat → Nat → Rat) (b : Nat → Rat) : Nat → Rat := fun i => ((scT n A b i : Int) : Rat)
theorem bd_lt : bd4 (pw 5) < pw 21 := by decide +kernel
theorem SmP.det (h : SmP m n A b c) (D : Dc) : ∃ d : Int, det4 (padM m (basM n A (tR n A b) D)) = ((d : Int) : Rat) ∧ (d.natAbs : Int) < pw 21 := by
 obtain ⟨d, h1, h2⟩ := det4_int (padM_int (m := m) (M := basM n A (tR n A b) D) (B := pw 5) (by decide +kernel) (fun i k hi hk => h.tcol hi _))
 exact ⟨d, h1, by have := bd_lt; omega⟩
theorem SmP.val (h : SmP m n A b c) {D : Dc} (hB : Bas m n A b D) {d : Int} (hd : det4 (padM m (basM n A (tR n A b) D)) = ((d : Int) : Rat)) : (∀ k, k < m → IsI (D.v k * ((d : Int) : Rat)) (bd4 (pw 5))) ∧ ∀ s, s < n → ∀ k, k < m → IsI (D.a k s * ((d : Int) : Rat)) (bd4 (pw 5)) := by
 have key : ∀ (z q : Nat → Rat), (∀ i, i < m → smQ (fun k => z k * colA n A (D.own k) i) m = q i) → (∀ i, i < m → IsI (tR n A b i * q i) (pw 5)) → ∀ k, k < m → IsI (z k * ((d : Int) : Rat)) (bd4 (pw 5)) := fun z q h1 h2 k hk => by
  have h3 := cramP h.m4 (M := basM n A (tR n A b) D) (z := z) (h := fun i => tR n A b i * q i) (fun i hi => basM_mul (h1 i hi)) hk
  rw [hd] at h3
  rw [← h3]
  refine det4_int (padM_int (B := pw 5) (by decide +kernel) fun i l hi hl => ?_)
  show IsI (if l = k then tR n A b i * q i else basM n A (tR n A b) D i l) (pw 5)
  split
  · exact h2 i hi
  · exact h.tcol hi _
 refine ⟨key D.v b hB.val fun i hi => ?_, fun s hs => key (fun k => D.a k s) (fun i => colA n A (D.free s) i) (fun i hi => hB.col i hi s hs) fun i hi => h.tcol hi _⟩
 have := h.tb hi
 rw [Rat.mul_comm] at this
 exact this
theorem SmP.prc (h : SmP m n A b c) {D : Dc} {d G : Int} (hd : det4 (padM m (basM n A (tR n A b) D)) = ((d : Int) : Rat)) {y g : Nat → Rat} (hy : ∀ k, k < m → smQ (fun i => y i * colA n A (D.own k) i) m = g k) (hg : ∀ k, k < m → IsI (g k * ((G : Int) : Rat)) (pw 5)) : ∀ i, i < m → IsI (y i * (((G * d) : Int) : Rat)) (pw 5 * bd4 (pw 5)) := by
 intro i hi
 have hT : tR n A b i ≠ 0 := int_ne (SmP.tpos i)
 have h3 := cramP h.m4 (M := fun k i => basM n A (tR n A b) D i k) (z := fun i => y i / tR n A b i * ((G : Int) : Rat)) (h := fun k => g k * ((G : Int) : Rat)) (fun k hk => by
  rw [← hy k hk, ← smQ_scale]
  refine smQ_congr fun i _ => ?_
  have hT : tR n A b i ≠ 0 := int_ne (SmP.tpos i)
  show tR n A b i * colA n A (D.own k) i * (y i / tR n A b i * ((G : Int) : Rat)) = _
  generalize tR n A b i = t at hT
  grind) hi
 have e : det4 (padM m fun k i => basM n A (tR n A b) D i k) = det4 (padM m (basM n A (tR n A b) D)) := by
  rw [← det4_turn]
  refine det4_congr fun i k _ _ => ?_
  unfold padM
  by_cases e1 : k < m ∧ i < m
  · rw [if_pos e1, if_pos ⟨e1.2, e1.1⟩]
  · rw [if_neg e1, if_neg (fun h : i < m ∧ k < m => e1 ⟨h.2, h.1⟩)]
    by_cases e2 : i = k
    · rw [if_pos e2, if_pos e2.symm]
    · rw [if_neg e2, if_neg (fun h : k = i => e2 h.symm)]
 rw [e, hd] at h3
 have h4 : IsI (y i / tR n A b i * ((G : Int) : Rat) * ((d : Int) : Rat)) (bd4 (pw 5)) := by
  rw [← h3]
  refine det4_int (padM_int (B := pw 5) (by decide +kernel) fun k l hk hl => ?_)
  show IsI (if l = i then g k * ((G : Int) : Rat) else basM n A (tR n A b) D l k) (pw 5)
  split
  · exact hg k hk
  · exact h.tcol hl _
 have h5 := ((IsI.of (scT n A b i)).mono (C := pw 5) (by have := h.tle hi; have := SmP.tpos (n := n) (A := A) (b := b) i; omega)).mul h4
 have e2 : ((scT n A b i : Int) : Rat) * (y i / tR n A b i * ((G : Int) : Rat) * ((d : Int) : Rat)) = y i * (((G * d) : Int) : Rat) := by
  rw [Rat.intCast_mul]
  show tR n A b i * (y i / tR n A b i * ((G : Int) : Rat) * ((d : Int) : Rat)) = _
  generalize tR n A b i = t at hT
  grind
 rw [e2] at h5
 exact h5
end
theorem IsI.pt {q : Rat} {K B : Int} {l : Nat} (h : IsI (q * ((K : Int) : Rat)) B) (hK : ((K : Int) : Rat) ≠ 0) (h1 : (K.natAbs : Int) < pw l) (h2 : B < pw l) : Pt l q := by
 obtain ⟨z, e, hz⟩ := h
 exact int_ratio hK e h1 (by omega)
theorem prd_small {a x : Nat → Rat} {i j l : Nat} {K B : Int} (hK : ((K : Int) : Rat) ≠ 0) (hl : (K.natAbs : Int) < pw l) (hB : 4 * B < pw l) (hB0 : 0 ≤ B) (hij : i + j ≤ 60) (hs : l + (i + j) + 1 ≤ 60) : ∀ {n : Nat}, n ≤ 4 → (∀ k, k < n → Pt i (a k) ∧ Pt j (x k) ∧ IsI (a k * x k * ((K : Int) : Rat)) B) → prdK a x n = true ∧ IsI (smQ (fun k => a k * x k) n * ((K : Int) : Rat)) (n * B) ∧ Pt l (smQ (fun k => a k * x k) n)
 | 0, hn, h => by
  have h0 : IsI (smQ (fun k => a k * x k) 0 * ((K : Int) : Rat)) ((0 : Nat) * B) := by
   rw [smQ, Rat.zero_mul]
   exact IsI.zero (by omega)
  exact ⟨rfl, h0, h0.pt hK hl (by omega)⟩
 | n + 1, hn, h => by
  obtain ⟨h1, h2, h3⟩ := prd_small hK hl hB hB0 hij hs (n := n) (by omega) (fun k hk => h k (by omega))
  obtain ⟨g1, g2, g3⟩ := h n (by omega)
  obtain ⟨k1, k2⟩ := g1.mul g2 hij
  obtain ⟨k3, -⟩ := h3.add k2 hs
  have h4 : IsI (smQ (fun k => a k * x k) (n + 1) * ((K : Int) : Rat)) ((n + 1 : Nat) * B) := by
   have e : smQ (fun k => a k * x k) (n + 1) * ((K : Int) : Rat) = smQ (fun k => a k * x k) n * ((K : Int) : Rat) + a n * x n * ((K : Int) : Rat) := by
    rw [smQ]
    grind
   rw [e]
   refine (h2.add g3).mono ?_
   push_cast
   rw [Int.add_mul]
   omega
  refine ⟨?_, h4, h4.pt hK hl ?_⟩
  · rw [prdK_succ, h1, k1, k3]
    rfl
  · have : ((n + 1 : Nat) : Int) * B ≤ 4 * B := Int.mul_le_mul_of_nonneg_right (by omega) hB0
    omega
section
variable {m n : Nat} {A : Nat → Nat → Rat} {b c : Nat → Rat} {D : Dc}
theorem sum_col {y : Nat → Rat} {u : Nat} (hu : u < n) : smQ (fun i => y i * colA n A u i) m = smQ (fun i => y i * A i u) m := smQ_congr fun i _ => by
 unfold colA
 rw [if_pos hu]
theorem sum_slack {y : Nat → Rat} {k : Nat} (hk : k < m) : smQ (fun i => y i * colA n A (n + k) i) m = y k := by
 have e : ∀ i, colA n A (n + k) i = if i = k then 1 else 0 := fun i => by
  unfold colA
  rw [if_neg (by omega)]
  by_cases e : i = k
  · rw [if_pos (by omega), if_pos e]
  · rw [if_neg (by omega), if_neg e]
 rw [smQ_only hk (fun i hi hne => by rw [e, if_neg hne]; grind), e, if_pos rfl]
 grind
theorem price_best (hD : D.Ok m n) (hl : (opnD n A b c).Like m n D) : ∀ k, k < m → smQ (fun i => yB n D i * colA n A (D.own k) i) m = if D.own k < n then c (D.own k) else 0 := by
 obtain ⟨κ, hκ⟩ := hl.gol
 let γ := cof n D.c D.free
 have hγ : ∀ y : Nat → Rat, D.gol n y = smQ (fun u => y u * γ u) (n + m) := fun y => cof_sum y (fun j hj => hD.lf j hj)
 have line : ∀ (f : Rat) (z : Nat → Rat), smQ (fun j => c j * z j) n = smQ (fun k => z k * (γ k - smQ (fun i => γ (n + i) * A i k) m)) n + f * smQ (fun i => γ (n + i) * b i) m + κ * f := fun f z => by
  have h1 := hκ _ f (ext_on (m := m) (c := c) (A := A) (b := b) f z)
  rw [gol_ext, hγ, line_prices] at h1
  exact h1
 have ek : ∀ k, k < n → c k = γ k - smQ (fun i => γ (n + i) * A i k) m := fun k hk => by
  exact ZQ56
 have gO : ∀ i, i < m → γ (D.own i) = 0 := fun i hi => cof_out (fun j hj e => hD.ne i j hi hj e.symm)
 have ey : ∀ k, k < m → yB n D k = -(γ (n + k)) := fun k hk => by
  unfold yB
  rcases hD.all (n + k) (by omega) with ⟨i, hi, e⟩ | ⟨j, hj, e⟩
  · rw [idxP_out (fun j hj e2 => hD.ne i j hi hj (by rw [e, e2])), ← e, gO i hi]
    grind
  · rw [← e, idxP_at hj hD.jf]
    have : γ (D.free j) = D.c j := cof_at hj (fun i k hi hk e => hD.jf i k hi hk e)
    rw [this]
    grind
 intro k hk
 have hlo := hD.lo k hk
 by_cases hu : D.own k < n
 · rw [if_pos hu, sum_col hu, ek _ hu, gO k hk]
   have : smQ (fun i => yB n D i * A i (D.own k)) m = smQ (fun i => (γ (n + i) * A i (D.own k)) * (-1)) m := smQ_congr fun i hi => by rw [ey i hi]; grind
   rw [this, smQ_scale]
   grind
 · rw [if_neg hu]
   have e1 : D.own k = n + (D.own k - n) := by omega
   rw [e1, sum_slack (by omega), ey _ (by omega), ← e1, gO k hk]
   grind
theorem price_none {r : Nat} (hD : D.Ok m n) (hl : (opnD n A b c).Like m n D) (hr : r < m) : ∀ k, k < m → smQ (fun i => yC n D r i * colA n A (D.own k) i) m = if k = r then 1 else 0 := by
 let γ := fun u => dlt (D.own r) u + cof n (D.a r) D.free u
 have hrow : ∀ (y : Nat → Rat) (f : Rat), D.on m n y f → smQ (fun u => y u * γ u) (n + m) = D.v r * f := fun y f h => by
  exact ZQ35
 have gO : ∀ i, i < m → γ (D.own i) = if i = r then 1 else 0 := fun i hi => by
  show dlt (D.own r) (D.own i) + cof n (D.a r) D.free (D.own i) = _
  rw [cof_out (fun j hj e => hD.ne i j hi hj e.symm)]
  unfold dlt
  by_cases e : i = r
  · rw [if_pos (by rw [e]), if_pos e]; grind
  · rw [if_neg (fun h => e (hD.io i r hi hr h)), if_neg e]; grind
 have gF : ∀ j, j < n → γ (D.free j) = D.a r j := fun j hj => by
  exact ZQ87
 have line : ∀ (f : Rat) (z : Nat → Rat), smQ (fun k => z k * (γ k - smQ (fun i => γ (n + i) * A i k) m)) n + f * smQ (fun i => γ (n + i) * b i) m = D.v r * f := fun f z => by
  have h1 := hrow _ f ((hl.on _ f).1 (ext_on (m := m) (c := c) (A := A) (b := b) f z))
  rw [line_prices] at h1
  exact h1
 have ek : ∀ k, k < n → γ k = smQ (fun i => γ (n + i) * A i k) m := fun k hk => by
  have h1 := line 0 (dlt k)
  rw [smQ_only (f := fun j => dlt k j * (γ j - smQ (fun i => γ (n + i) * A i j) m)) hk (fun j hj hne => by unfold dlt; rw [if_neg hne]; grind)] at h1
  unfold dlt at h1
  rw [if_pos rfl] at h1
  have h2 : ∀ g s : Rat, 1 * (g - s) + 0 * smQ (fun i => γ (n + i) * b i) m = D.v r * 0 → g = s := fun g s h => by
   generalize smQ (fun i => γ (n + i) * b i) m = q at h
   grind
  exact h2 _ _ h1
 have ey : ∀ k, k < m → yC n D r k = γ (n + k) := fun k hk => by
  unfold yC
  by_cases e0 : D.own r = n + k
  · rw [if_pos e0, ← e0, gO r hr, if_pos rfl]
  · rw [if_neg e0]
    rcases hD.all (n + k) (by omega) with ⟨i, hi, e⟩ | ⟨j, hj, e⟩
    · rw [idxP_out (fun j hj e2 => hD.ne i j hi hj (by rw [e, e2])), ← e, gO i hi, if_neg (fun h => e0 (by rw [← h]; exact e))]
    · rw [← e, idxP_at hj hD.jf, gF j hj]
 intro k hk
 have hlo := hD.lo k hk
 rw [← gO k hk]
 by_cases hu : D.own k < n
 · rw [sum_col hu, ek _ hu]
   exact smQ_congr fun i hi => by rw [ey i hi]
 · have e1 : D.own k = n + (D.own k - n) := by omega
   rw [e1, sum_slack (by omega), ey _ (by omega)]
def Cd (k : Nat) (n : Nat) (x : Nat → Rat) : Prop := ∃ d : Int, ((d : Int) : Rat) ≠ 0 ∧ (d.natAbs : Int) < pw k ∧ ∀ u, u < n → IsI (x u * ((d : Int) : Rat)) (pw k - 1)
theorem Cd.pt {k : Nat} {x : Nat → Rat} (h : Cd k n x) : ∀ u, u < n → Pt k (x u) := by
 obtain ⟨d, h1, h2, h3⟩ := h
 intro u hu
 exact (h3 u hu).pt h1 h2 (by omega)
theorem Cd.mono {k l : Nat} {x : Nat → Rat} (h : Cd k n x) (hkl : k ≤ l) : Cd l n x := by
 obtain ⟨d, h1, h2, h3⟩ := h
 have := pw_le hkl
 exact ⟨d, h1, by omega, fun u hu => (h3 u hu).mono (by omega)⟩
theorem cd_best (hS : SmP m n A b c) (hB : Bas m n A b D) (hd : det4 (padM m (basM n A (tR n A b) D)) ≠ 0) : Cd 21 n (xB m D) := by
 obtain ⟨d, h1, h2⟩ := hS.det D
 rw [h1] at hd
 refine ⟨d, hd, h2, fun u hu => ?_⟩
 obtain ⟨h3, -⟩ := hS.val hB h1
 have hp : bd4 (pw 5) ≤ pw 21 - 1 := by decide +kernel
 unfold xB
 rcases idxP_spec D.own u m with ⟨q, -⟩ | ⟨i, q, hi, e⟩
 · rw [q]
   show IsI (0 * _) _
   rw [Rat.zero_mul]
   exact IsI.zero (by have := pw_pos 21; omega)
 · rw [q]
   exact (h3 i hi).mono hp
theorem cd_ray (hS : SmP m n A b c) (hB : Bas m n A b D) (hd : det4 (padM m (basM n A (tR n A b) D)) ≠ 0) {s : Nat} (hs : s < n) : Cd 21 n (xR m D s) := by
 obtain ⟨d, h1, h2⟩ := hS.det D
 rw [h1] at hd
 refine ⟨d, hd, h2, fun u hu => ?_⟩
 obtain ⟨-, h3⟩ := hS.val hB h1
 have hp : bd4 (pw 5) ≤ pw 21 - 1 := by decide +kernel
 unfold xR
 split
 · rw [Rat.one_mul]
   exact (IsI.of d).mono (by omega)
 · rcases idxP_spec D.own u m with ⟨q, -⟩ | ⟨i, q, hi, e⟩
   · rw [q]
     show IsI (0 * _) _
     rw [Rat.zero_mul]
     exact IsI.zero (by have := pw_pos 21; omega)
   · rw [q]
     show IsI ((0 - D.a i s) * _) _
     have e2 : (0 - D.a i s) * ((d : Int) : Rat) = -(D.a i s * ((d : Int) : Rat)) := by grind
     rw [e2]
     exact (h3 s hs i hi).neg.mono hp
theorem cd_price (hS : SmP m n A b c) (hd : det4 (padM m (basM n A (tR n A b) D)) ≠ 0) {y g : Nat → Rat} {G : Int} (hG : 0 < G) (hG4 : G ≤ pw 4) (hy : ∀ k, k < m → smQ (fun i => y i * colA n A (D.own k) i) m = g k) (hg : ∀ k, k < m → IsI (g k * ((G : Int) : Rat)) (pw 5)) : Cd 26 m y := by
 obtain ⟨d, h1, h2⟩ := hS.det D
 have h3 := hS.prc h1 hy hg
 rw [h1] at hd
 refine ⟨G * d, ?_, ?_, fun i hi => (h3 i hi).mono (by decide +kernel)⟩
 · rw [Rat.intCast_mul]
   intro e
   rcases Rat.mul_eq_zero.1 e with e | e
   · exact int_ne hG e
   · exact hd e
 · rw [Int.natAbs_mul]
   push_cast
   have : (G.natAbs : Int) * (d.natAbs : Int) ≤ pw 4 * pw 21 := Int.mul_le_mul (by omega) (by omega) (by omega) (Int.le_of_lt (pw_pos 4))
   have e : pw 4 * pw 21 < pw 26 := by decide +kernel
   omega
theorem prD_le4 {f : Nat → Rat} (hn : n ≤ 4) (h : ∀ k, k < n → Pt 1 (f k)) : prD f n ≤ pw 4 := Int.le_trans (prD_le h) (pw_le hn)
theorem prD_int5 {f : Nat → Rat} (hn : n ≤ 4) (h : ∀ k, k < n → Pt 1 (f k)) : ∀ k, k < n → IsI (f k * ((prD f n : Int) : Rat)) (pw 5) := fun k hk => (prD_int h k hk).mono (pw_le (by omega))
theorem cd_best_y (hS : SmP m n A b c) (hD : D.Ok m n) (hl : (opnD n A b c).Like m n D) (hd : det4 (padM m (basM n A (tR n A b) D)) ≠ 0) : Cd 26 m (yB n D) := by
 refine cd_price hS hd (prD_pos c n) (prD_le4 hS.n4 hS.c) (price_best hD hl) fun k hk => ?_
 split
 · exact prD_int5 hS.n4 hS.c _ (by assumption)
 · rw [Rat.zero_mul]
   exact IsI.zero (Int.le_of_lt (pw_pos 5))
theorem cd_none_y (hS : SmP m n A b c) {c' : Nat → Rat} (hD : D.Ok m n) (hl : (opnD n A b c').Like m n D) (hd : det4 (padM m (basM n A (tR n A b) D)) ≠ 0) {r : Nat} (hr : r < m) : Cd 26 m (yC n D r) := by
 refine cd_price hS hd (show (0 : Int) < 1 by decide) (by decide +kernel) (price_none hD hl hr) fun k hk => ?_
 split
 · rw [Rat.one_mul]
   exact IsI.one (by decide +kernel)
 · rw [Rat.zero_mul]
   exact IsI.zero (Int.le_of_lt (pw_pos 5))
theorem Cd.fit {k i : Nat} {a x : Nat → Rat} (hn : n ≤ 4) (h : Cd k n x) {G : Int} (hG : 0 < G) (hG5 : G ≤ pw i) (ha : ∀ u, u < n → Pt 1 (a u) ∧ IsI (a u * ((G : Int) : Rat)) (pw i)) (hk : 2 * k + i + 3 ≤ 60) : prdK a x n = true ∧ Pt (i + k + 1) (smQ (fun u => a u * x u) n) := by
 have hp := h.pt
 obtain ⟨d, h1, h2, h3⟩ := h
 have e0 : ∀ t, pw (t + 1) = 1048576 * pw t := fun t => rfl
 have e1 : pw i * pw k = pw (i + k) := by
  have : ∀ t, pw t * pw k = pw (t + k) := fun t => by
   induction t with
   | zero => rw [show pw 0 = 1 from rfl, Int.one_mul, Nat.zero_add]
   | succ t ih => rw [e0, Int.mul_assoc, ih, show t + 1 + k = (t + k) + 1 by omega, e0]
  exact this i
 have h5 := e0 (i + k)
 have h6 := pw_pos (i + k)
 have := prd_small (a := a) (x := x) (i := 1) (j := k) (l := i + k + 1) (K := G * d) (B := pw i * pw k) (by
  rw [Rat.intCast_mul]
  intro e
  rcases Rat.mul_eq_zero.1 e with e | e
  · exact int_ne hG e
  · exact h1 e) (by
  rw [Int.natAbs_mul]
  push_cast
  have : (G.natAbs : Int) * (d.natAbs : Int) ≤ pw i * pw k := Int.mul_le_mul (by omega) (by omega) (by omega) (Int.le_of_lt (pw_pos i))
  rw [e1] at this
  omega) (by rw [e1]; omega) (by rw [e1]; omega) (by omega) (by omega) hn (fun u hu => ⟨(ha u hu).1, hp u hu, by
  have e2 : a u * x u * (((G * d) : Int) : Rat) = (a u * ((G : Int) : Rat)) * (x u * ((d : Int) : Rat)) := by
   rw [Rat.intCast_mul]
   grind
  rw [e2]
  exact (ha u hu).2.mul ((h3 u hu).mono (by omega))⟩)
 exact ⟨this.1, this.2.2⟩
theorem mulK_comm (x y : Rat) : mulK x y = mulK y x := by
 unfold mulK
 rw [Int.mul_comm x.num, Int.mul_comm (x.den : Int)]
theorem prdK_comm (x y : Nat → Rat) : ∀ n : Nat, prdK x y n = prdK y x n
 | 0 => rfl
 | n + 1 => by
  rw [prdK_succ, prdK_succ, prdK_comm x y n, mulK_comm, Rat.mul_comm, smQ_congr (f := fun i => x i * y i) (g := fun i => y i * x i) (fun i _ => Rat.mul_comm _ _)]
theorem bel_fit (hS : SmP m n A b c) {b' x : Nat → Rat} {k : Nat} (hx : Cd k n x) (hk : 2 * k + 8 ≤ 60) (h : ∀ i, i < m → smQ (fun j => A i j * x j) n ≤ b' i) : belB m n A b' x = true :=
 sumsB_iff.2 fun i hi => ⟨(hx.fit hS.n4 (SmP.tpos (n := n) (A := A) (b := b) i) (hS.tle hi) (fun j hj => ⟨hS.a i j hi hj, hS.ta hi hj⟩) (by omega)).1, decide_eq_true (h i hi)⟩
theorem gol_fit (hS : SmP m n A b c) {x : Nat → Rat} {k : Nat} (hx : Cd k n x) (hk : 2 * k + 7 ≤ 60) : prdK c x n = true :=
 (hx.fit (i := 4) hS.n4 (prD_pos c n) (prD_le4 hS.n4 hS.c) (fun j hj => ⟨hS.c j hj, (prD_int hS.c j hj).mono (pw_le hS.n4)⟩) (by omega)).1
theorem cov_fit (hS : SmP m n A b c) {c' y : Nat → Rat} {k : Nat} (hy : Cd k m y) (hk : 2 * k + 7 ≤ 60) (h : ∀ j, j < n → c' j ≤ smQ (fun i => y i * A i j) m) : covB m n A c' y = true := by
 refine sumsB_iff.2 fun j hj => ⟨?_, decide_eq_true (h j hj)⟩
 rw [prdK_comm]
 exact (hy.fit (i := 4) hS.m4 (prD_pos (fun i => A i j) m) (prD_le4 hS.m4 fun i hi => hS.a i j hi hj) (fun i hi => ⟨hS.a i j hi hj, (prD_int (f := fun i => A i j) (fun i hi => hS.a i j hi hj) i hi).mono (pw_le hS.m4)⟩) (by omega)).1
end
section
variable {m n : Nat} {A : Nat → Nat → Rat} {b c : Nat → Rat} {l : List Fv} {ls : List Rv}
theorem small_prog (hf : fewP l ls = true) (hok : (l.all Fv.ok && ls.all (rowF n)) = true) (hl : l.length = n) (hr : ls.length = m) : SmP m n (rwA2 ls) (rwB2 ls false) (fvR l) := by
 obtain ⟨h1, h2, h3, h4⟩ := fewP_parts hf
 rw [Bool.and_eq_true] at hok
 have hrow : ∀ i (hi : i < ls.length), (ls[i]).a.length = n ∧ (ls[i]).b.ok = true ∧ (ls[i]).a.all Fv.ok = true := fun i hi => rowF_parts (List.all_eq_true.1 hok.2 _ (List.getElem_mem hi))
 refine ⟨by omega, by omega, fun i j hi hj => ?_, fun i hi => ?_, fvR_pt h3 hok.1 hl⟩
 · have hi2 : i < ls.length := by omega
   rw [rwA2_at (List.getElem?_eq_getElem hi2)]
   exact fvR_pt (h4 _ (List.getElem_mem hi2)).2 (hrow i hi2).2.2 (hrow i hi2).1 j hj
 · have hi2 : i < ls.length := by omega
   rw [rwB2_at (List.getElem?_eq_getElem hi2)]
   exact few_pt9 (hrow i hi2).2.1 (h4 _ (List.getElem_mem hi2)).1
def CdE (m n : Nat) : LpEnd → Prop
 | .full => True
 | .none y => Cd 26 m y
 | .ray x => Cd 21 n x
 | .best x y => Cd 21 n x ∧ Cd 26 m y
theorem tR_ne (i : Nat) : tR n A b i ≠ 0 := int_ne (SmP.tpos (n := n) (A := A) (b := b) i)
theorem LpSays.cd {E : LpEnd} (hS : SmP m n A b c) (h : LpSays m n A b c E) : CdE m n E := by
 have bas : ∀ {c' : Nat → Rat} {D : Dc}, Srch m n (opnD n A b c') (some D) → Bas m n A b D ∧ det4 (padM m (basM n A (tR n A b) D)) ≠ 0 := fun {c' D} h =>
  h.bas hS.m4 (opn_ok m n A b c') (Bas.opn m n A b c') (det_opn hS.m4 A b c' (tR n A b) fun i _ => tR_ne i) D rfl
 cases h with
 | full1 _ => trivial
 | full2 _ _ _ => trivial
 | none h hr =>
  obtain ⟨h1, h2⟩ := bas h
  obtain ⟨g1, g2, -⟩ := h.like (opn_ok m n A b _) _ rfl
  exact cd_none_y hS g1 g2 h2 (Dc.pick_contra hr).1
 | fin h hr h2 =>
  obtain ⟨h3, h4⟩ := bas h2
  obtain ⟨g1, g2, -⟩ := h2.like (opn_ok m n A b _) _ rfl
  unfold endOf
  split
  · next s hs => exact cd_ray hS h3 h4 (Dc.pick_endless hs).1
  · exact ⟨cd_best hS h3 h4, cd_best_y hS g1 g2 h4⟩
theorem Cd.congr {k : Nat} {x y : Nat → Rat} (h : Cd k n x) (e : ∀ u, u < n → y u = x u) : Cd k n y := by
 obtain ⟨d, h1, h2, h3⟩ := h
 exact ⟨d, h1, h2, fun u hu => by rw [e u hu]; exact h3 u hu⟩
theorem fvL_at {f : Nat → Rat} : ∀ u, u < n → fvR (ofF n fun i => fvQ (f i)) u = f u := fun u hu => by rw [fvR_ofF hu, fvQ_rat]
theorem fnF_list {f : Nat → Rat} (h : ∀ u, u < n → 0 ≤ f u) (hf : ∀ u, u < n → fitsF (f u) = true) : (ofF n fun i => fvQ (f i)).all fnF = true := ofF_allP9 fun i hi => by
 have ho := fvQ_ok (hf i hi)
 unfold fnF
 rw [ho, Bool.true_and, Bool.not_eq_true']
 have h5 := isQ.neg_iff (x := ⟨(fvQ (f i)).s, none, 0, 0, (fvQ (f i)).l, (fvQ (f i)).t, none, 0, 0, (fvQ (f i)).m⟩) (q := f i) (by have := fv_std ho; rw [fvQ_rat] at this; exact this)
 have h6 : decide ((fvQ (f i)).s < 0) = decide (f i < 0) := h5
 rw [h6]
 exact decide_eq_false (Rat.not_lt.2 (h i hi))
theorem val_fit (hS : SmP m n A b c) {y : Nat → Rat} {k : Nat} (hy : Cd k m y) (hk : 2 * k + 7 ≤ 60) : prdK y b m = true := by
 rw [prdK_comm]
 exact (hy.fit (i := 4) hS.m4 (prD_pos b m) (prD_le4 hS.m4 hS.b) (fun j hj => ⟨hS.b j hj, (prD_int hS.b j hj).mono (pw_le hS.m4)⟩) (by omega)).1
theorem chk_none {y : Nat → Rat} (hS : SmP m n (rwA2 ls) (rwB2 ls false) c) (h : LpSays m n (rwA2 ls) (rwB2 ls false) c (.none y)) (hf : ∀ i, i < m → fitsF (y i) = true) : chkN n m ls [] (ofF m fun i => fvQ (y i)) = true := by
 have hc := h.isN
 have hd : Cd 26 m y := h.cd hS
 have e := fvL_at (n := m) (f := y)
 have hd2 := hd.congr e
 have s1 : ∀ j, smQ (fun i => fvR (ofF m fun i => fvQ (y i)) i * rwA2 ls i j) m = smQ (fun i => y i * rwA2 ls i j) m := fun j => smQ_congr fun i hi => by rw [e i hi]
 have s2 : smQ (fun i => fvR (ofF m fun i => fvQ (y i)) i * rwB2 ls false i) m = smQ (fun i => y i * rwB2 ls false i) m := smQ_congr fun i hi => by rw [e i hi]
 unfold chkN
 rw [cov_fit (c' := zeroC) hS hd2 (by omega) (fun j hj => by rw [s1]; exact hc.1.2 j hj), val_fit hS hd2 (by omega), s2, decide_eq_true hc.2, ofF_len, fnF_list hc.1.1 hf]
 simp
theorem chk_ray {x : Nat → Rat} (hS : SmP m n (rwA2 ls) (rwB2 ls false) (fvR l)) (h : LpSays m n (rwA2 ls) (rwB2 ls false) (fvR l) (.ray x)) (hf : ∀ i, i < n → fitsF (x i) = true) : chkR n m l ls (ofF n fun i => fvQ (x i)) [] = true := by
 have hc := h.isR
 have hd : Cd 21 n x := h.cd hS
 have e := fvL_at (n := n) (f := x)
 have hd2 := hd.congr e
 have s1 : ∀ i, smQ (fun j => rwA2 ls i j * fvR (ofF n fun i => fvQ (x i)) j) n = smQ (fun j => rwA2 ls i j * x j) n := fun i => smQ_congr fun j hj => by rw [e j hj]
 have s2 : smQ (fun j => fvR l j * fvR (ofF n fun i => fvQ (x i)) j) n = smQ (fun j => fvR l j * x j) n := smQ_congr fun i hi => by rw [e i hi]
 unfold chkR
 rw [bel_fit (b' := rwB2 ls true) hS hd2 (by omega) (fun i hi => by rw [s1]; exact hc.1.2 i hi), gol_fit hS hd2 (by omega), s2, decide_eq_true hc.2, ofF_len, fnF_list hc.1.1 hf]
 simp
theorem chk_best {x y : Nat → Rat} (hS : SmP m n (rwA2 ls) (rwB2 ls false) (fvR l)) (h : LpSays m n (rwA2 ls) (rwB2 ls false) (fvR l) (.best x y)) (hf : ∀ i, i < n → fitsF (x i) = true) (hg : ∀ i, i < m → fitsF (y i) = true) : chkO n m l ls (ofF n fun i => fvQ (x i)) (ofF m fun i => fvQ (y i)) = true := by
 have hc := h.isB
 have hd : Cd 21 n x ∧ Cd 26 m y := h.cd hS
 have e := fvL_at (n := n) (f := x)
 have g := fvL_at (n := m) (f := y)
 have hd1 := hd.1.congr e
 have hd2 := hd.2.congr g
 have s1 : ∀ i, smQ (fun j => rwA2 ls i j * fvR (ofF n fun i => fvQ (x i)) j) n = smQ (fun j => rwA2 ls i j * x j) n := fun i => smQ_congr fun j hj => by rw [e j hj]
 have s2 : smQ (fun j => fvR l j * fvR (ofF n fun i => fvQ (x i)) j) n = smQ (fun j => fvR l j * x j) n := smQ_congr fun i hi => by rw [e i hi]
 have t1 : ∀ j, smQ (fun i => fvR (ofF m fun i => fvQ (y i)) i * rwA2 ls i j) m = smQ (fun i => y i * rwA2 ls i j) m := fun j => smQ_congr fun i hi => by rw [g i hi]
 have t2 : smQ (fun i => fvR (ofF m fun i => fvQ (y i)) i * rwB2 ls false i) m = smQ (fun i => y i * rwB2 ls false i) m := smQ_congr fun i hi => by rw [g i hi]
 unfold chkO
 rw [bel_fit (b' := rwB2 ls false) hS hd1 (by omega) (fun i hi => by rw [s1]; exact hc.1.2 i hi), cov_fit (c' := fvR l) hS hd2 (by omega) (fun j hj => by rw [t1]; exact hc.2.1.2 j hj), val_fit hS hd2 (by omega), gol_fit hS hd1 (by omega), s2, t2, decide_eq_true hc.2.2, ofF_len, ofF_len, fnF_list hc.1.1 hf, fnF_list hc.2.1.1 hg]
 simp
end
end Go.Proofs.YtdlcglndhhndpaaGreat
