/- Plain law of layer 36: who is solvent stays so with more money, a greater premium, smaller claims, or fewer periods. -/
import Derived.Test.YthhmdljfklbbeaaP14
namespace Go.Proofs.Ythhmdljfklbbeaa
set_option linter.unusedVariables false

theorem fb_iff {p : Pl} : ∀ k, fb p k = 0 ↔ ∀ j : Nat, j < k → worstF p (j + 1) ≤ p.mo + ((j : Int) + 1) * p.pr
  | 0 => ⟨fun _ j h => absurd h (by omega), fun _ => rfl⟩
  | k + 1 => by
    rw [fb]
    constructor
    · intro h j hj
      by_cases h0 : fb p k = 0
      · rw [if_neg (by simp [h0])] at h
        by_cases e : j = k
        · subst e
          by_cases hb : p.mo + ((j : Int) + 1) * p.pr < worstF p (j + 1)
          · rw [if_pos hb] at h; omega
          · omega
        · exact (fb_iff k).1 h0 j (by omega)
      · rw [if_pos h0] at h; exact absurd h h0
    · intro h
      have h0 : fb p k = 0 := (fb_iff k).2 fun j hj => h j (by omega)
      rw [if_neg (by simp [h0]), if_neg (by have := h k (by omega); omega)]
theorem Gw_le {m m' T T' : Int} (hm : m' ≤ m) (hT : T' ≤ T) (r : Nat) : Gw m' T' r ≤ Gw m T r := by
  have : (r : Int) * m' ≤ (r : Int) * m := Int.mul_le_mul_of_nonneg_left hm (by omega)
  unfold Gw; omega
theorem worst_mono {p q : Pl} (hp : rightF p = true) (hq : rightF q = true) (hw : q.wi = p.wi) (hm : q.ms * q.co ≤ p.ms * p.co) (ht : q.to ≤ p.to) (n : Nat) : worstF q n ≤ worstF p n := by
  obtain ⟨_, _, p3, _, _, p6⟩ := rightF_iff hp
  obtain ⟨_, _, q3, _, _, q6⟩ := rightF_iff hq
  unfold worstF
  rw [hw, gr_div p3.1 (by omega), gr_div q3.1 (by omega)]
  have h1 := Gw_le hm ht p.wi.toNat
  have h2 := Gw_le hm ht (n % p.wi.toNat)
  have h3 : ((n / p.wi.toNat : Nat) : Int) * Gw (q.ms * q.co) q.to p.wi.toNat ≤ ((n / p.wi.toNat : Nat) : Int) * Gw (p.ms * p.co) p.to p.wi.toNat := Int.mul_le_mul_of_nonneg_left h1 (Int.natCast_nonneg _)
  omega
theorem argF_nat {p : Pl} (hp : rightF p = true) {k : Nat} (hk : k ≤ 1000) : argF p k = true := by
  simp [argF, hp, inB]; omega
theorem solvB_iff {p : Pl} (hp : rightF p = true) {k : Nat} (hk : k ≤ 1000) : solvB p k = true ↔ fb p k = 0 := by
  simp [solvB, argF_nat hp hk]
/-- with another pool that is better off -/
theorem solv_more {p q : Pl} (hp : rightF p = true) (hq : rightF q = true) (hw : q.wi = p.wi) (hm : q.ms * q.co ≤ p.ms * p.co) (ht : q.to ≤ p.to) (h1 : p.mo ≤ q.mo) (h2 : p.pr ≤ q.pr) {k : Nat} (hk : k ≤ 1000) (h : solvB p k = true) : solvB q k = true := by
  rw [solvB_iff hp hk, fb_iff] at h
  rw [solvB_iff hq hk, fb_iff]
  intro j hj
  have h3 := h j hj
  have h4 := worst_mono hp hq hw hm ht (j + 1)
  have h5 : ((j : Int) + 1) * p.pr ≤ ((j : Int) + 1) * q.pr := Int.mul_le_mul_of_nonneg_left h2 (by omega)
  omega
theorem solv_fewer {p : Pl} (hp : rightF p = true) {k k' : Nat} (hk : k ≤ 1000) (hkk : k' ≤ k) (h : solvB p k = true) : solvB p k' = true := by
  rw [solvB_iff hp hk, fb_iff] at h
  rw [solvB_iff hp (by omega), fb_iff]
  exact fun j hj => h j (by omega)
theorem solvE_nat {p : Pl} (hp : rightF p = true) {k : Nat} (hk : k ≤ 1000) : solvE p k = 0 := by simp [solvE, argF_nat hp hk]
/-- the pool that is better off -/
def moreP (p : Pl) (c : Nat) (n : Int) : Pl :=
  if c = 0 then { p with mo := min (p.mo + min n 1000000000000000) 1000000000000000 }
  else if c = 1 then { p with pr := min (p.pr + min n 1000000000000000) 1000000000000000 }
  else if c = 2 then { p with to := max 0 (p.to - n) }
  else if c = 3 then { p with co := max 1 (p.co - n) }
  else { p with ms := max 1 (p.ms - n) }
theorem rightF_of {p : Pl} (h : (0 ≤ p.mo ∧ p.mo ≤ 1000000000000000) ∧ (0 ≤ p.pr ∧ p.pr ≤ 1000000000000000) ∧ (0 ≤ p.to ∧ p.to ≤ 1000000000000000) ∧ (1 ≤ p.ms ∧ p.ms ≤ 1000000000000000) ∧ (1 ≤ p.co ∧ p.co ≤ 1000) ∧ (1 ≤ p.wi ∧ p.wi ≤ 1000)) : rightF p = true := by
  simp [rightF, r1, r2, r3, r4, inB]
  omega
theorem more_right {p : Pl} (hp : rightF p = true) (c : Nat) {n : Int} (hn : 0 ≤ n) : rightF (moreP p c n) = true ∧ (moreP p c n).wi = p.wi ∧ (moreP p c n).ms * (moreP p c n).co ≤ p.ms * p.co ∧ (moreP p c n).to ≤ p.to ∧ p.mo ≤ (moreP p c n).mo ∧ p.pr ≤ (moreP p c n).pr := by
  obtain ⟨⟨p11, p12⟩, ⟨p21, p22⟩, ⟨p31, p32⟩, ⟨p41, p42⟩, ⟨p51, p52⟩, ⟨p61, p62⟩⟩ := rightF_iff hp
  unfold moreP
  by_cases h0 : c = 0
  · rw [if_pos h0]
    exact ⟨rightF_of (by simp only; omega), rfl, Int.le_refl _, Int.le_refl _, by simp only; omega, Int.le_refl _⟩
  rw [if_neg h0]
  by_cases h1 : c = 1
  · rw [if_pos h1]
    exact ⟨rightF_of (by simp only; omega), rfl, Int.le_refl _, Int.le_refl _, Int.le_refl _, by simp only; omega⟩
  rw [if_neg h1]
  by_cases h2 : c = 2
  · rw [if_pos h2]
    exact ⟨rightF_of (by simp only; omega), rfl, Int.le_refl _, by simp only; omega, Int.le_refl _, Int.le_refl _⟩
  rw [if_neg h2]
  by_cases h3 : c = 3
  · rw [if_pos h3]
    exact ⟨rightF_of (by simp only; omega), rfl, Int.mul_le_mul_of_nonneg_left (by simp only; omega) (by simp only; omega), Int.le_refl _, Int.le_refl _, Int.le_refl _⟩
  rw [if_neg h3]
  exact ⟨rightF_of (by simp only; omega), rfl, Int.mul_le_mul_of_nonneg_right (by simp only; omega) (by simp only; omega), Int.le_refl _, Int.le_refl _, Int.le_refl _⟩
end Go.Proofs.Ythhmdljfklbbeaa
