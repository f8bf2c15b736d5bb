/- Plain law: a quotient, digit by digit. No condition. -/
import Derived.Test.YtkeajohkpmabcaaDoorN5
namespace Go.Proofs.YtkeajohkpmabcaaDoor
open Go.RowKit
set_option linter.unusedVariables false

theorem vF_nought : ∀ n, vF (fun _ => 0) n = 0
  | 0 => rfl
  | n + 1 => by rw [vF, vF_nought n]; omega
theorem vF_split (f : Nat → Int) (a : Nat) : ∀ b, vF f (a + b) = vF f a + pw a * vF (fun j => f (a + j)) b
  | 0 => by simp [vF]
  | b + 1 => by
    rw [← Nat.add_assoc, vF, vF_split f a b, vF, pw_add, Int.mul_add, Int.mul_assoc]
    omega
/-- the greatest digits of a number of n + 2 digits, and of one of n + 3 -/
theorem top2 {v : Nat → Int} {p : Nat} (h : Dg v (p + 2)) : (v (p + 1) * 1048576 + v p) * pw p ≤ vF v (p + 2) ∧ vF v (p + 2) < (v (p + 1) * 1048576 + v p + 1) * pw p := by
  have h1 := vF_lt (n := p) (fun i hi => h i (by omega))
  have h2 := vF_nonneg (n := p) (fun i hi => h i (by omega))
  have e : vF v (p + 2) = vF v p + (v (p + 1) * 1048576 + v p) * pw p := by
    rw [vF, vF, pw, Int.add_mul, Int.mul_comm (v p), Int.mul_right_comm (v (p + 1)), Int.mul_comm (v (p + 1) * pw p), Int.mul_comm (v (p + 1)), Int.mul_assoc]
    omega
  rw [Int.add_mul _ 1, Int.one_mul, e]
  omega
theorem top3 {v : Nat → Int} {p : Nat} (h : Dg v (p + 3)) : ((v (p + 2) * 1048576 + v (p + 1)) * 1048576 + v p) * pw p ≤ vF v (p + 3) ∧ vF v (p + 3) < ((v (p + 2) * 1048576 + v (p + 1)) * 1048576 + v p + 1) * pw p := by
  have h1 := vF_lt (n := p) (fun i hi => h i (by omega))
  have h2 := vF_nonneg (n := p) (fun i hi => h i (by omega))
  have e : vF v (p + 3) = vF v p + ((v (p + 2) * 1048576 + v (p + 1)) * 1048576 + v p) * pw p := by
    have e1 : pw (p + 2) * v (p + 2) = (v (p + 2) * 1048576 * 1048576) * pw p := by
      rw [pw, pw, Int.mul_comm _ (v (p + 2)), Int.mul_assoc (v (p + 2)), Int.mul_assoc (v (p + 2)), Int.mul_assoc 1048576]
    have e2 : pw (p + 1) * v (p + 1) = (v (p + 1) * 1048576) * pw p := by
      rw [pw, Int.mul_comm _ (v (p + 1)), Int.mul_assoc (v (p + 1))]
    rw [vF, vF, vF, e1, e2, Int.mul_comm (pw p), Int.add_mul, Int.add_mul _ _ 1048576, Int.add_mul]
    omega
  rw [Int.add_mul _ 1, Int.one_mul, e]
  omega
/-- dividing X by Y, which has n digits: the digits of the quotient from k on are known -/
structure DivI (X Y : Int) (n : Nat) (f : Nat → Int) (N : Nat) (q : Nat → Int) (M k : Nat) : Prop where
  tot : vF f N + Y * (pw k * vT q M k) = X
  dg : Dg f N
  zero : ∀ j, k + n ≤ j → j < N → f j = 0
  less : vF (fun j => f (k + j)) n < Y
  qd : ∀ j, k ≤ j → j < M → 0 ≤ q j ∧ q j < 1048576
section
variable {X Y : Int} {n N M : Nat} {f f' q q' : Nat → Int}
theorem DivI.start (hN : N = M + n) (hn : 1 ≤ n) (hf : Dg f N) (hX : vF f N = X) (h0 : f (N - 1) = 0) (hY : pw (n - 1) ≤ Y) : DivI X Y n f N q M M where
  tot := by rw [vT_end, Int.mul_zero, Int.mul_zero, Int.add_zero]; exact hX
  dg := hf
  zero := fun j h1 h2 => by omega
  less := by
    obtain ⟨p, rfl⟩ : ∃ p, n = p + 1 := ⟨n - 1, by omega⟩
    rw [vF, show M + p = N - 1 by omega, h0, Int.mul_zero, Int.add_zero]
    have := vF_lt (f := fun j => f (M + j)) (n := p) (fun j hj => hf (M + j) (by omega))
    rw [Nat.add_sub_cancel] at hY
    omega
  qd := fun j h1 h2 => by omega
/-- what is divided in one step -/
def winV (f : Nat → Int) (i n : Nat) : Int := vF (fun j => f (i + j)) (n + 1)
theorem DivI.win {i : Nat} (h : DivI X Y n f N q M (i + 1)) (hN : N = M + n) (hi : i < M) : 0 ≤ winV f i n ∧ winV f i n < 1048576 * Y := by
  have h1 : winV f i n = f i + 1048576 * vF (fun j => f (i + 1 + j)) n := by
    unfold winV
    rw [vF_shift]
    congr 2
    exact vF_congr n fun j _ => by rw [show i + (j + 1) = i + 1 + j by omega]
  have h2 := h.dg i (by omega)
  have h3 := h.less
  have h4 := vF_nonneg (f := fun j => f (i + 1 + j)) (n := n) (fun j hj => h.dg (i + 1 + j) (by omega))
  rw [h1]
  omega
theorem DivI.step {i : Nat} {x : Int} (h : DivI X Y n f N q M (i + 1)) (hN : N = M + n) (hi : i < M) (hY : 0 < Y) (hYn : Y < pw n) (hx : x = winV f i n / Y) (hw : vF (fun j => f' (i + j)) (n + 1) = winV f i n - x * Y) (hd : Dg (fun j => f' (i + j)) (n + 1))
    (ho : ∀ p, p < i ∨ i + (n + 1) ≤ p → f' p = f p) (hq : q' i = x) (hqo : ∀ j, i + 1 ≤ j → q' j = q j) : DivI X Y n f' N q' M i := by
  obtain ⟨w0, w1⟩ := h.win hN hi
  have hx0 : 0 ≤ x := by rw [hx]; exact Int.ediv_nonneg w0 (by omega)
  have hx1 : x < 1048576 := by rw [hx]; exact Int.ediv_lt_of_lt_mul hY w1
  have hr0 : 0 ≤ winV f i n - x * Y ∧ winV f i n - x * Y < Y := by
    have e := Int.emod_add_mul_ediv (winV f i n) Y
    have e1 := Int.emod_nonneg (winV f i n) (b := Y) (by omega)
    have e2 := Int.emod_lt_of_pos (winV f i n) hY
    rw [hx, Int.mul_comm]
    omega
  have hdg : Dg f' N := fun j hj => by
    by_cases e : j < i ∨ i + (n + 1) ≤ j
    · rw [ho j e]; exact h.dg j hj
    · have := hd (j - i) (by omega)
      simp only [show i + (j - i) = j by omega] at this
      exact this
  have htop : f' (i + n) = 0 := by
    have h1 : vF (fun j => f' (i + j)) (n + 1) = vF (fun j => f' (i + j)) n + pw n * f' (i + n) := rfl
    have h2 := vF_nonneg (f := fun j => f' (i + j)) (n := n) (fun j hj => hd j (by omega))
    have h3 := (hd n (by omega)).1
    simp only at h3
    refine Classical.byContradiction fun hne => ?_
    have h4 := Int.mul_le_mul_of_nonneg_left (show 1 ≤ f' (i + n) by omega) (Int.le_of_lt (pw_pos n))
    omega
  refine ⟨?_, hdg, fun j h1 h2 => ?_, ?_, fun j h1 h2 => ?_⟩
  · have e0 : N = i + ((n + 1) + (M - i - 1)) := by omega
    have s1 : ∀ g : Nat → Int, vF g N = vF g i + pw i * (vF (fun j => g (i + j)) (n + 1) + pw (n + 1) * vF (fun j => g (i + (n + 1 + j))) (M - i - 1)) := fun g => by
      rw [e0, vF_split g i, vF_split (fun j => g (i + j)) (n + 1)]
    have s2 := s1 f
    have s3 := s1 f'
    rw [vF_congr (g := f) i (fun j hj => ho j (by omega)), hw, vF_congr (f := fun j => f' (i + (n + 1 + j))) (g := fun j => f (i + (n + 1 + j))) _ (fun j hj => ho _ (by omega))] at s3
    have s4 : vF f' N = vF f N - pw i * (x * Y) := by
      rw [s3, s2]
      unfold winV
      rw [show ∀ a b c : Int, a - b + c = (a + c) - b from fun a b c => by omega, Int.mul_sub]
      omega
    have s5 : vT q' M i = x + 1048576 * vT q M (i + 1) := by
      rw [vT_step q' hi, hq]
      congr 2
      exact vF_congr _ fun j hj => hqo _ (by omega)
    have s6 := h.tot
    rw [pw] at s6
    rw [s4, s5, Int.mul_add (pw i), Int.mul_add Y]
    have s7 : Y * (pw i * x) = pw i * (x * Y) := by rw [Int.mul_comm x Y, ← Int.mul_assoc, ← Int.mul_assoc, Int.mul_comm Y]
    have s8 : Y * (pw i * (1048576 * vT q M (i + 1))) = Y * (1048576 * pw i * vT q M (i + 1)) := by rw [← Int.mul_assoc (pw i), Int.mul_comm (pw i) 1048576]
    rw [s7, s8]
    omega
  · by_cases e : j = i + n
    · subst e; exact htop
    · rw [ho j (by omega)]
      exact h.zero j (by omega) h2
  · have h1 : vF (fun j => f' (i + j)) (n + 1) = vF (fun j => f' (i + j)) n + pw n * f' (i + n) := rfl
    rw [htop, Int.mul_zero, Int.add_zero] at h1
    omega
  · by_cases e : j = i
    · subst e; rw [hq]; exact ⟨hx0, hx1⟩
    · rw [hqo j (by omega)]; exact h.qd j (by omega) h2
theorem DivI.fin (h : DivI X Y n f N q M 0) (hN : N = M + n) (hY : 0 < Y) : vF q M = X / Y ∧ vF f N = X % Y ∧ Dg q M := by
  have h1 := h.tot
  rw [pw, Int.one_mul, vT_all] at h1
  have h2 : vF f N = vF f n := by
    rw [hN, Nat.add_comm, vF_split]
    have : vF (fun j => f (n + j)) M = 0 := by
      rw [vF_congr (g := fun _ => 0) M (fun j hj => h.zero _ (by omega) (by omega))]
      exact vF_nought M
    rw [this, Int.mul_zero, Int.add_zero]
  have h3 := h.less
  have h4 : vF (fun j => f (0 + j)) n = vF f n := vF_congr n fun j _ => by rw [Nat.zero_add]
  rw [h4] at h3
  have h5 := vF_nonneg h.dg
  have h6 := Int.ediv_emod_unique (a := X) (b := Y) (r := vF f N) (q := vF q M) hY
  obtain ⟨h7, h8⟩ := h6.2 ⟨by omega, h5, by omega⟩
  exact ⟨h7.symm, h8.symm, fun j hj => h.qd j (Nat.zero_le _) hj⟩
end
theorem digs_length {z : Int} {k : Nat} (h1 : pw (k - 1) ≤ z) (h2 : z < pw k) (hk : 1 ≤ k) : (digs z.toNat).length = k := by
  have hz := pw_pos (k - 1)
  have e : ((z.toNat : Nat) : Int) = z := by omega
  have h3 : (digs z.toNat).length ≤ k := digs_len.2 (by rw [e]; exact h2)
  refine Classical.byContradiction fun hne => ?_
  have h4 : (digs z.toNat).length ≤ k - 1 := by omega
  have := digs_len.1 h4
  omega
/-- the divisor, shifted: as many digits as before -/
theorem shift_bd {b : List Int} {n : Nat} {e : Nat} {sh : Int} (cb : Cn b) (hl : b.length = n) (hn : 1 ≤ n) (hs : sh = 2 ^ e) (he : e ≤ 20) (ht : gi b (n - 1) * sh < 1048576) : pw (n - 1) ≤ val b * sh ∧ val b * sh < pw n := by
  obtain ⟨p, rfl⟩ : ∃ p, n = p + 1 := ⟨n - 1, by omega⟩
  rw [Nat.add_sub_cancel] at ht ⊢
  have hsp : 1 ≤ sh := by
    rw [hs]
    have : (0 : Int) < 2 ^ e := Int.pow_pos (by decide)
    omega
  have hne : b ≠ [] := fun h => by rw [h] at hl; simp at hl
  have h1 := cb.ge hne
  rw [hl, Nat.add_sub_cancel] at h1
  have hd := cb.1.at hl
  have hv : val b = vF (gi b) p + pw p * gi b p := val_vF hl
  have hlow := vF_lt (f := gi b) (n := p) (fun i hi => hd i (by omega))
  have hlow0 := vF_nonneg (f := gi b) (n := p) (fun i hi => hd i (by omega))
  have hpp := pw_pos p
  constructor
  · have := Int.mul_le_mul_of_nonneg_left hsp (show 0 ≤ val b by omega)
    omega
  · have hdiv : sh * 2 ^ (20 - e) = 1048576 := by
      rw [hs, ← Int.pow_add, show e + (20 - e) = 20 by omega]
      rfl
    have h2 : (gi b p + 1) * sh ≤ 1048576 := by
      have h3 : gi b p < 2 ^ (20 - e) := by
        refine Int.lt_of_mul_lt_mul_right (a := sh) ?_ (by omega)
        rw [Int.mul_comm (2 ^ (20 - e)) sh, hdiv]
        exact ht
      have h4 := Int.mul_le_mul_of_nonneg_right (show gi b p + 1 ≤ 2 ^ (20 - e) by omega) (show 0 ≤ sh by omega)
      rw [Int.mul_comm (2 ^ (20 - e)) sh, hdiv] at h4
      exact h4
    have h5 : val b + 1 ≤ pw p * (gi b p + 1) := by rw [Int.mul_add, Int.mul_one]; omega
    have h6 := Int.mul_le_mul_of_nonneg_right h5 (show 0 ≤ sh by omega)
    have h7 := Int.mul_le_mul_of_nonneg_left h2 (show 0 ≤ pw p by omega)
    rw [← Int.mul_assoc] at h7
    rw [Int.add_mul, Int.one_mul] at h6
    rw [pw, Int.mul_comm 1048576]
    omega
theorem scale_div {a b s : Int} (hs : 0 < s) : (a * s) / (b * s) = a / b := Int.mul_ediv_mul_of_pos_left a b hs
theorem scale_mod {a b s : Int} (hs : 0 < s) : (a * s) % (b * s) = (a % b) * s := by rw [Int.mul_comm a, Int.mul_comm b, Int.mul_emod_mul_of_pos _ _ hs, Int.mul_comm]
end Go.Proofs.YtkeajohkpmabcaaDoor
