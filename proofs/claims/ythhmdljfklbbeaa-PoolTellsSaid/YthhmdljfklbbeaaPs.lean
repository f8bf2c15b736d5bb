/- Plain law of layer 36: the greedy claims are admitted and reach Worst; no admitted claims are more. -/
import Derived.Test.YthhmdljfklbbeaaPq
namespace Go.Proofs.Ythhmdljfklbbeaa
set_option linter.unusedVariables false

theorem mny_eq (p : Pl) (cl : List (List Int)) : ∀ i : Nat, mny p cl i = p.mo + (i : Int) * p.pr - sumN (sI cl) i
  | 0 => by simp [mny, sumN]
  | i + 1 => by
    rw [mny, mny_eq p cl i, sumN, Int.natCast_succ, Int.add_mul, Int.one_mul]; omega
theorem gi_left {l : List Int} {x : Int} {j : Nat} (h : j < l.length) : gi (l ++ [x]) j = gi l j := by
  unfold gi; rw [List.getD, List.getD, List.getElem?_append_left h]
theorem lsum_snoc (l : List Int) (x : Int) : lsum (l ++ [x]) = lsum l + x := by
  unfold lsum
  rw [List.length_append, List.length_singleton, sumN, sumN_congr l.length (fun i hi => gi_left hi)]
  congr 1
  exact gi_eq (by rw [List.getElem?_append_right (Nat.le_refl _)]; simp)
theorem lsum_rep (m : Int) : ∀ q : Nat, lsum (List.replicate q m) = q * m
  | 0 => by simp [lsum, sumN]
  | q + 1 => by rw [List.replicate_succ', lsum_snoc, lsum_rep m q, Int.natCast_succ, Int.add_mul, Int.one_mul]
theorem lsum_parts {ms G : Int} (hm : 1 ≤ ms) (hG : 0 ≤ G) : lsum (partsL ms G) = G := by
  have h1 := Int.mul_ediv_add_emod G ms
  have h2 := Int.emod_nonneg G (show ms ≠ 0 by omega)
  have h3 : 0 ≤ G / ms := Int.ediv_nonneg hG (by omega)
  have h4 : ((G / ms).toNat : Int) * ms = ms * (G / ms) := by rw [Int.mul_comm]; congr 1; omega
  unfold partsL
  by_cases h : 0 < G % ms
  · rw [if_pos h, lsum_snoc, lsum_rep, h4]; omega
  · rw [if_neg h, List.append_nil, lsum_rep, h4]; omega
theorem okP_parts {p : Pl} (hp : rightF p = true) {G : Int} (hG : 0 ≤ G) (hG2 : G ≤ p.ms * p.co) : okP p (partsL p.ms G) = true := by
  obtain ⟨_, _, _, h4, h5, _⟩ := rightF_iff hp
  have h1 := Int.mul_ediv_add_emod G p.ms
  have h2 := Int.emod_nonneg G (show p.ms ≠ 0 by omega)
  have h2' := Int.emod_lt_of_pos G (show 0 < p.ms by omega)
  have h3 : 0 ≤ G / p.ms := Int.ediv_nonneg hG (by omega)
  have hlen : ((partsL p.ms G).length : Int) ≤ p.co := by
    unfold partsL
    rw [List.length_append, List.length_replicate]
    by_cases h : 0 < G % p.ms
    · rw [if_pos h]
      have h6 : G / p.ms < p.co := Int.lt_of_mul_lt_mul_left (a := p.ms) (by omega) (by omega)
      simp only [List.length_singleton]; omega
    · rw [if_neg h]
      have h6 : G / p.ms ≤ p.co := Int.le_of_mul_le_mul_left (a := p.ms) (by omega) (by omega)
      simp only [List.length_nil]; omega
  rw [okP, Bool.and_eq_true, decide_eq_true_eq, List.all_eq_true]
  refine ⟨hlen, fun x hx => ?_⟩
  unfold partsL at hx
  rw [List.mem_append] at hx
  rcases hx with hx | hx
  · rw [List.eq_of_mem_replicate hx]; simp [inB]; omega
  · by_cases h : 0 < G % p.ms
    · rw [if_pos h, List.mem_singleton] at hx
      subst hx; simp [inB]; omega
    · rw [if_neg h] at hx; cases hx
theorem clAt_grL (p : Pl) {n i : Nat} (h : i < n) : clAt (grL p n) i = partsL p.ms (grP p i) := clAt_eq (ofF_get h)
theorem sI_grL {p : Pl} (hp : rightF p = true) {n i : Nat} (h : i < n) : sI (grL p n) i = grP p i := by
  obtain ⟨_, _, _, h4, _, _⟩ := rightF_iff hp
  unfold sI
  rw [clAt_grL p h, lsum_parts h4.1 ((grP_facts hp).2 i).1.1]
theorem adm_grL {p : Pl} (hp : rightF p = true) (n : Nat) : ∀ i, i ≤ n → admN p (grL p n) i = true
  | 0, _ => rfl
  | i + 1, hi => by
    obtain ⟨⟨h1, h2, h3⟩, h4, h5, _⟩ := (grP_facts hp).2 i
    rw [admN, adm_grL hp n i (by omega), clAt_grL p (show i < n by omega), okP_parts hp h1 h3]
    have e : ∀ k, k ≤ n → sumN (sI (grL p n)) k = sumN (grP p) k := fun k hk => sumN_congr k fun j hj => sI_grL hp (by omega)
    have hw : winS p (grL p n) i ≤ p.to := by
      unfold winS
      rw [e (i + 1) hi, e _ (by unfold wb; omega), sumN]
      omega
    simpa using hw
theorem sum_grL {p : Pl} (hp : rightF p = true) {n i : Nat} (h : i ≤ n) : sumN (sI (grL p n)) i = worstF p i := sumN_congr i fun j hj => sI_grL hp (by omega)
/-- no admitted claims are more -/
theorem le_worst {p : Pl} (hp : rightF p = true) {cl : List (List Int)} {n : Nat} (h : admN p cl n = true) {k : Nat} (hk : k ≤ n) : sumN (sI cl) k ≤ worstF p k := by
  obtain ⟨_, _, h3, h4, h5, h6⟩ := rightF_iff hp
  have hm := (grP_facts hp).1
  have hnn := fun j (hj : j < n) => sI_nonneg h hp hj
  refine le_gr (N := n) h3.1 hm.1 (by omega) (fun i hi => ?_) (fun a r har hr => ?_) k hk
  · have hok := (admN_at h hi).1
    rw [okP, Bool.and_eq_true, decide_eq_true_eq, List.all_eq_true] at hok
    have hb : ∀ k, k ≤ (clAt cl i).length → sumN (gi (clAt cl i)) k ≤ k * p.ms := by
      intro k
      induction k with
      | zero => intro _; simp [sumN]
      | succ k ih =>
        intro hk
        have h7 := hok.2 _ (List.getElem_mem (show k < (clAt cl i).length by omega))
        have h8 : gi (clAt cl i) k = (clAt cl i)[k] := gi_eq (List.getElem?_eq_getElem (by omega))
        simp [inB] at h7
        have := ih (by omega)
        rw [sumN, h8, Int.natCast_succ, Int.add_mul, Int.one_mul]
        omega
    have h9 := hb _ (Nat.le_refl _)
    have h10 : ((clAt cl i).length : Int) * p.ms ≤ p.co * p.ms := Int.mul_le_mul_of_nonneg_right hok.1 (by omega)
    have h11 : p.co * p.ms = p.ms * p.co := Int.mul_comm _ _
    unfold sI lsum
    omega
  · cases r with
    | zero => simp only [sumN]; exact h3.1
    | succ r =>
      have h7 := (admN_at h (show a + r < n by omega)).2
      unfold winS at h7
      have h8 := sumN_add (sI cl) a (r + 1)
      have h9 := sumN_mono (f := sI cl) (n := a) (fun j hj => hnn j (by omega)) (wb p.wi.toNat (a + r)) (by unfold wb; omega)
      have e : a + (r + 1) = a + r + 1 := by omega
      rw [e] at h8
      omega
/-- the money after a period -/
theorem solvent_money {p : Pl} (hp : rightF p = true) {cl : List (List Int)} {n k : Nat} (h : admN p cl n = true) (hk : fb p k = 0) {j : Nat} (hj : j < n) (hjk : j < k) : 0 ≤ mny p cl (j + 1) := by
  have h1 := le_worst hp h (show j + 1 ≤ n by omega)
  have h2 := (fb_iff k).1 hk j hjk
  rw [mny_eq, Int.natCast_succ]
  omega
theorem fb_le {p : Pl} : ∀ k, fb p k ≤ k
  | 0 => Nat.le_refl _
  | k + 1 => by
    rw [fb]
    have := fb_le (p := p) k
    split
    · omega
    · split <;> omega
theorem fb_bad {p : Pl} : ∀ k, fb p k ≠ 0 → (∀ j, j + 1 < fb p k → worstF p (j + 1) ≤ p.mo + ((j : Int) + 1) * p.pr) ∧ p.mo + (fb p k : Int) * p.pr < worstF p (fb p k)
  | 0, h => absurd rfl h
  | k + 1, h => by
    by_cases h0 : fb p k = 0
    · have e : fb p (k + 1) = if p.mo + ((k : Int) + 1) * p.pr < worstF p (k + 1) then k + 1 else 0 := by rw [fb, if_neg (by simp [h0])]
      by_cases hb : p.mo + ((k : Int) + 1) * p.pr < worstF p (k + 1)
      · rw [e, if_pos hb]
        exact ⟨fun j hj => (fb_iff k).1 h0 j (by omega), by rw [Int.natCast_succ]; exact hb⟩
      · rw [e, if_neg hb] at h; exact absurd rfl h
    · have e : fb p (k + 1) = fb p k := by rw [fb, if_pos h0]
      rw [e]; exact fb_bad k h0
theorem bad_money {p : Pl} (hp : rightF p = true) {k : Nat} (h : fb p k ≠ 0) {j : Nat} (hj : j < fb p k) : decide (mny p (grL p (fb p k)) (j + 1) < 0) = decide (j + 1 = fb p k) := by
  obtain ⟨h1, h2⟩ := fb_bad k h
  rw [mny_eq, sum_grL hp (show j + 1 ≤ fb p k by omega)]
  by_cases e : j + 1 = fb p k
  · rw [decide_eq_true e, decide_eq_true_iff, e]
    omega
  · have h3 := h1 j (by omega)
    rw [decide_eq_false e, decide_eq_false_iff_not, Int.natCast_succ]
    omega
end Go.Proofs.Ythhmdljfklbbeaa
