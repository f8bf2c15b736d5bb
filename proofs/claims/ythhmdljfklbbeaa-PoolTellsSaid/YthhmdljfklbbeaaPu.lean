/- Plain law of layer 36: how the reference makes greedy claims, looks at windows, and counts money. -/
import Derived.Test.YthhmdljfklbbeaaPw
import Derived.Test.YthhmdljfklbbeaaPr
namespace Go.Proofs.Ythhmdljfklbbeaa
set_option linter.unusedVariables false

theorem partsL_mul {ms : Int} (hm : 1 ≤ ms) (m : Nat) : partsL ms ((m : Int) * ms) = List.replicate m ms := by
  have h1 : (m : Int) * ms / ms = m := Int.mul_ediv_cancel _ (by omega)
  have h2 : (m : Int) * ms % ms = 0 := Int.mul_emod_left _ _
  unfold partsL
  rw [h1, h2, if_neg (by omega), List.append_nil, Int.toNat_natCast]
theorem partsL_rem {ms r : Int} (hr : 0 < r) (hrm : r < ms) (m : Nat) : partsL ms ((m : Int) * ms + r) = List.replicate m ms ++ [r] := by
  have h1 : ((m : Int) * ms + r) / ms = m := by
    rw [Int.add_comm, Int.add_mul_ediv_right _ _ (by omega), Int.ediv_eq_zero_of_lt (by omega) hrm, Int.zero_add]
  have h2 : ((m : Int) * ms + r) % ms = r := by
    rw [Int.add_comm, Int.add_mul_emod_self_right, Int.emod_eq_of_lt (by omega) hrm]
  unfold partsL
  rw [h1, h2, if_pos hr, Int.toNat_natCast]
/-- the claims of a period on the way -/
def GrInv (ms co L : Int) (l : List Int) (s : Int) : Prop :=
  (∃ m : Nat, l = List.replicate m ms ∧ s = (m : Int) * ms ∧ (m : Int) ≤ co ∧ s ≤ L) ∨ ((l.length : Int) ≤ co ∧ s = L ∧ l = partsL ms (min L (ms * co)) ∧ min L (ms * co) = L)
theorem GrInv.start {ms co L : Int} (hL : 0 ≤ L) (hc : 1 ≤ co) : GrInv ms co L [] 0 := Or.inl ⟨0, rfl, by simp, by omega, hL⟩
theorem GrInv.facts {ms co L : Int} {l : List Int} {s : Int} (h : GrInv ms co L l s) (hL : 0 ≤ L) (hm : 1 ≤ ms) : 0 ≤ s ∧ s ≤ L ∧ (l.length : Int) ≤ co := by
  rcases h with ⟨m, rfl, rfl, h1, h2⟩ | ⟨h1, rfl, h3, h4⟩
  · have := Int.mul_nonneg (show (0 : Int) ≤ (m : Int) by omega) (show 0 ≤ ms by omega)
    exact ⟨this, h2, by rw [List.length_replicate]; exact h1⟩
  · exact ⟨hL, Int.le_refl _, h1⟩
theorem GrInv.step {ms co L : Int} {l : List Int} {s : Int} (h : GrInv ms co L l s) (hm : 1 ≤ ms) (hl : (l.length : Int) < co) (hs : s < L) : GrInv ms co L (l ++ [min ms (L - s)]) (s + min ms (L - s)) := by
  rcases h with ⟨m, rfl, rfl, h1, h2⟩ | ⟨h1, rfl, h3, h4⟩
  · rw [List.length_replicate] at hl
    by_cases hle : ms ≤ L - (m : Int) * ms
    · rw [Int.min_eq_left hle]
      refine Or.inl ⟨m + 1, by rw [List.replicate_succ'], ?_, by omega, by omega⟩
      rw [Int.natCast_succ, Int.add_mul, Int.one_mul]
    · rw [Int.min_eq_right (by omega)]
      have hmul : ((m : Int) + 1) * ms ≤ co * ms := Int.mul_le_mul_of_nonneg_right (by omega) (by omega)
      rw [Int.add_mul, Int.one_mul, Int.mul_comm co ms] at hmul
      have hmin : min L (ms * co) = L := Int.min_eq_left (by omega)
      refine Or.inr ⟨by rw [List.length_append, List.length_replicate, List.length_singleton]; omega, by omega, ?_, hmin⟩
      rw [hmin]
      have := partsL_rem (ms := ms) (r := L - (m : Int) * ms) (by omega) (by omega) m
      rw [show (m : Int) * ms + (L - (m : Int) * ms) = L by omega] at this
      exact this.symm
  · omega
theorem GrInv.done {ms co L : Int} {l : List Int} {s : Int} (h : GrInv ms co L l s) (hm : 1 ≤ ms) (hc : 1 ≤ co) (hl : ¬ (l.length : Int) < co ∨ ¬ s < L) : l = partsL ms (min L (ms * co)) ∧ s = min L (ms * co) := by
  rcases h with ⟨m, rfl, rfl, h1, h2⟩ | ⟨h1, rfl, h3, h4⟩
  · rw [List.length_replicate] at hl
    have hmul : (m : Int) * ms ≤ co * ms := Int.mul_le_mul_of_nonneg_right h1 (by omega)
    rw [Int.mul_comm co ms] at hmul
    have e : min L (ms * co) = (m : Int) * ms := by
      rcases hl with hl | hl
      · have : co = (m : Int) := by omega
        subst this
        rw [Int.mul_comm ms, Int.min_eq_right h2]
      · have : L = (m : Int) * ms := by omega
        rw [this, Int.min_eq_left (by omega)]
    rw [e, partsL_mul hm]
    exact ⟨rfl, rfl⟩
  · exact ⟨h3, h4.symm⟩

/-- what keeps the money within bounds -/
def MnyBd (p : Pl) (cl : List (List Int)) (n : Nat) : Prop := ∀ i, i < n → ∀ j, j ≤ (clAt cl i).length → -4000000000000000000 ≤ mny p cl i + p.pr - sumN (gi (clAt cl i)) j ∧ mny p cl i + p.pr - sumN (gi (clAt cl i)) j ≤ 4000000000000000000
theorem adm_mnyBd {p : Pl} (hp : rightF p = true) {cl : List (List Int)} {n : Nat} (hn : n ≤ 1000) (h : admN p cl n = true) : MnyBd p cl n := fun i hi j hj => by
  have h1 := mny_bd hp h i (by omega)
  have h2 := okP_sum (admN_at h hi).1 hp j hj
  obtain ⟨_, h3, _⟩ := rightF_iff hp
  omega
theorem gr_sumBd {p : Pl} (hp : rightF p = true) {n : Nat} (hn : n ≤ 1000) : SumBd (grL p n) n := fun i hi j hj => by
  have h2 := okP_sum (admN_at (adm_grL hp n n (Nat.le_refl _)) hi).1 hp j hj
  have h1 := worst_bd hp i
  obtain ⟨_, _, h3, _⟩ := rightF_iff hp
  rw [sum_grL hp (Nat.le_of_lt hi)]
  have h4 : (i : Int) * p.to ≤ 1000 * 1000000000000000 := Int.mul_le_mul (by omega) h3.2 h3.1 (by omega)
  omega
theorem sumR_neg {p : Pl} {cl : List (List Int)} {i : Nat} (hp : rightF p = true) (h : sumR p (clAt cl i) < 0) : (okP p (clAt cl i) && decide (winS p cl i ≤ p.to)) = false := by
  have h1 := sumR_ok (l := clAt cl i) hp
  rw [decide_eq_false (by omega)] at h1
  rw [← h1]; rfl
theorem sumR_pos {p : Pl} {cl : List (List Int)} {i : Nat} (hp : rightF p = true) (h : 0 ≤ sumR p (clAt cl i)) : okP p (clAt cl i) = true ∧ sumR p (clAt cl i) = sI cl i := by
  have h1 := sumR_ok (l := clAt cl i) hp
  rw [decide_eq_true h] at h1
  refine ⟨h1.symm, ?_⟩
  unfold sumR sI
  rw [← h1, if_pos rfl]
theorem win_ge {p : Pl} {cl : List (List Int)} {i : Nat} (hp : rightF p = true) (h : admN p cl i = true) : sI cl i ≤ winS p cl i ∧ ∀ k, wb p.wi.toNat i ≤ k → k ≤ i → 0 ≤ sumN (sI cl) k - sumN (sI cl) (wb p.wi.toNat i) ∧ sumN (sI cl) k - sumN (sI cl) (wb p.wi.toNat i) ≤ sumN (sI cl) i - sumN (sI cl) (wb p.wi.toNat i) ∧ sumN (sI cl) i - sumN (sI cl) (wb p.wi.toNat i) ≤ 1000000000000000 := by
  have hnn := fun j (hj : j < i) => sI_nonneg h hp hj
  obtain ⟨_, _, h3, _, _, h6⟩ := rightF_iff hp
  have hwb : wb p.wi.toNat i ≤ i := by unfold wb; omega
  have hb := win_bd h hp
  have h1 := sumN_mono (f := sI cl) (n := i) (fun j hj => hnn j hj) (wb p.wi.toNat i) hwb
  have h2 := sumN_mono (f := sI cl) (n := wb p.wi.toNat i) (fun j hj => hnn j (by omega)) (i - p.wi.toNat) (by unfold wb; omega)
  refine ⟨by unfold winS; rw [sumN]; omega, fun k hk1 hk2 => ?_⟩
  have h4 := sumN_mono (f := sI cl) (n := k) (fun j hj => hnn j (by omega)) (wb p.wi.toNat i) hk1
  have h5 := sumN_mono (f := sI cl) (n := i) (fun j hj => hnn j hj) k hk2
  omega
theorem wb_max (W i : Nat) : max (0 : Int) ((i : Int) - (W : Int) + 1) = ((wb W i : Nat) : Int) := by unfold wb; omega
theorem gr_lefts {p : Pl} (hp : rightF p = true) (i : Nat) {k : Nat} (h1 : wb p.wi.toNat i ≤ k) (h2 : k ≤ i) : 0 ≤ p.to - (sumN (grP p) k - sumN (grP p) (wb p.wi.toNat i)) ∧ p.to - (sumN (grP p) k - sumN (grP p) (wb p.wi.toNat i)) ≤ p.to := by
  have h := (grP_facts hp).2
  have hnn : ∀ j, 0 ≤ grP p j := fun j => (h j).1.1
  have h3 := (h i).2.2.1
  have h4 := sumN_mono (f := grP p) (n := k) (fun j _ => hnn j) (wb p.wi.toNat i) h1
  have h5 := sumN_mono (f := grP p) (n := i) (fun j _ => hnn j) k h2
  omega
/-- the first period without money -/
theorem gr_mny {p : Pl} (hp : rightF p = true) {n j : Nat} (hj : j < n) : mny p (grL p n) (j + 1) = p.mo + ((j : Int) + 1) * p.pr - worstF p (j + 1) := by
  rw [mny_eq, sum_grL hp (by omega), Int.natCast_succ]
theorem fb_step {p : Pl} {j : Nat} (h : fb p j = 0) : fb p (j + 1) = if p.mo + ((j : Int) + 1) * p.pr < worstF p (j + 1) then j + 1 else 0 := by rw [fb, if_neg (by simp [h])]
theorem gr_take (p : Pl) {n k : Nat} (h : k ≤ n) : (grL p n).take k = grL p k := by
  unfold grL
  apply List.ext_getElem?
  intro j
  by_cases hj : j < k
  · rw [List.getElem?_take_of_lt hj, ofF_get (by omega), ofF_get hj]
  · rw [List.getElem?_eq_none (by rw [List.length_take]; omega), List.getElem?_eq_none (by rw [ofF_len]; omega)]
end Go.Proofs.Ythhmdljfklbbeaa
