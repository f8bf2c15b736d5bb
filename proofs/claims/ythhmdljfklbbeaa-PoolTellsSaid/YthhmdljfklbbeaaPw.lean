/- Plain law of layer 36: what PoolWorst says. -/
import Derived.Test.YthhmdljfklbbeaaP16
namespace Go.Proofs.Ythhmdljfklbbeaa
set_option linter.unusedVariables false

theorem worst_step {p : Pl} (hp : rightF p = true) (k : Nat) : worstF p k ≤ worstF p (k + 1) ∧ worstF p (k + 1) - worstF p k ≤ p.to := by
  have h := ((grP_facts hp).2 k).1
  have e : worstF p (k + 1) = worstF p k + grP p k := rfl
  omega
theorem worst_mono_k {p : Pl} (hp : rightF p = true) {k : Nat} : ∀ r, worstF p k ≤ worstF p (k + r)
  | 0 => Int.le_refl _
  | r + 1 => by
    have h1 := worst_mono_k hp (k := k) r
    have h2 := (worst_step hp (k + r)).1
    rw [← Nat.add_assoc]; omega
theorem worst_bd {p : Pl} (hp : rightF p = true) : ∀ k : Nat, 0 ≤ worstF p k ∧ worstF p k ≤ (k : Int) * p.to
  | 0 => by simp [worstF, sumN]
  | k + 1 => by
    have h1 := worst_bd hp k
    have h2 := worst_step hp k
    rw [Int.natCast_succ, Int.add_mul, Int.one_mul]; omega
theorem worst_win {p : Pl} (hp : rightF p = true) (k : Nat) : worstF p k ≤ (((k + p.wi.toNat - 1) / p.wi.toNat : Nat) : Int) * p.to := by
  obtain ⟨_, _, h3, h4, h5, h6⟩ := rightF_iff hp
  have hm := (grP_facts hp).1
  have hW : 0 < p.wi.toNat := by omega
  unfold worstF
  rw [gr_div h3.1 hW]
  have hT : ∀ r, Gw (p.ms * p.co) p.to r ≤ p.to := fun r => by unfold Gw; omega
  have hq : ((k / p.wi.toNat : Nat) : Int) * Gw (p.ms * p.co) p.to p.wi.toNat ≤ ((k / p.wi.toNat : Nat) : Int) * p.to := Int.mul_le_mul_of_nonneg_left (hT _) (Int.natCast_nonneg _)
  generalize p.wi.toNat = W at *
  have hdm := Nat.div_add_mod k W
  have hr := Nat.mod_lt k hW
  by_cases h : k % W = 0
  · have e : (k + W - 1) / W = k / W := by
      have : k + W - 1 = W * (k / W) + (W - 1) := by omega
      rw [this, Nat.mul_add_div hW, Nat.div_eq_of_lt (show W - 1 < W by omega), Nat.add_zero]
    rw [e, h, Gw_zero h3.1]; omega
  · have e : (k + W - 1) / W = k / W + 1 := by
      have : k + W - 1 = W * (k / W + 1) + (k % W - 1) := by rw [Nat.mul_add, Nat.mul_one]; omega
      rw [this, Nat.mul_add_div hW, Nat.div_eq_of_lt (show k % W - 1 < W by omega), Nat.add_zero]
    have := hT (k % W)
    rw [e, Int.natCast_succ, Int.add_mul, Int.one_mul]; omega
theorem adm_sum {p : Pl} (hp : rightF p = true) {cl : List (List Int)} {n : Nat} (hn : cl.length = n) (h : admF p cl = true) {K : Nat} (hK : K ≤ 17) : sumN (sI cl) (min K n) ≤ worstF p K ∧ SumBd cl (min K n) := by
  obtain ⟨_, _, h3, _, _, _⟩ := rightF_iff hp
  simp only [admF, Bool.and_eq_true] at h
  have ha := h.2.2
  rw [hn] at ha
  have hle := fun k (hk : k ≤ n) => le_worst hp ha hk
  refine ⟨?_, fun i hi j hj => ?_⟩
  · have h1 := hle (min K n) (by omega)
    have h2 := worst_mono_k hp (k := min K n) (K - min K n)
    rw [show min K n + (K - min K n) = K by omega] at h2
    omega
  · have h1 := hle i (by omega)
    have h2 := (worst_bd hp i).2
    have h4 : (i : Int) * p.to ≤ 17 * 1000000000000000 := Int.mul_le_mul (by omega) h3.2 h3.1 (by omega)
    have h5 := okP_sum (admN_at ha (show i < n by omega)).1 hp j hj
    have h6 := sumN_mono (f := sI cl) (n := i) (fun j hj => sI_nonneg ha hp (by omega)) 0 (by omega)
    have h7 : sumN (sI cl) 0 = 0 := rfl
    omega
end Go.Proofs.Ythhmdljfklbbeaa
