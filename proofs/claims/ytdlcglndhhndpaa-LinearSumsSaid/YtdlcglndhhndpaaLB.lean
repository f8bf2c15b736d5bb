/- Plain law of pivot's loops: how far the rows are reduced. Conditions stand in each theorem. -/
import Derived.Test.YtdlcglndhhndpaaLC
namespace Go.Proofs.Ytdlcglndhhndpaa
open Go.RowKit
set_option linter.unusedVariables false
set_option linter.unusedSimpArgs false

theorem allK_succ (f : Nat → Bool) (k : Nat) : (List.range (k + 1)).all f = ((List.range k).all f && f k) := by
  rw [List.range_succ, List.all_append]
  simp
abbrev Vx := Nat → Nat → Rw
def isQ (x : Rw) (q : Rat) : Prop := StdF x.s x.l x.t x.k q ∧ fitsF q = true
/-- the rows before i are reduced -/
def Stg (N n r c : Nat) (m : Mx) (i : Nat) (V : Vx) : Prop :=
  divB m n r c = true ∧ (∀ j k, j < n → k < N → isQ (V j k) (if j = r ∨ j < i then pivM m r c j k else m j k)) ∧ ∀ j, j < i → j = r ∨ m j c = 0 ∨ subB m n r c j = true
/-- .. and of row i the elements before k -/
def Stg2 (N n r c : Nat) (m : Mx) (i k : Nat) (V : Vx) : Prop :=
  divB m n r c = true ∧ (∀ j k', j < n → k' < N → isQ (V j k') (if j = r ∨ j < i ∨ (j = i ∧ k' < k) then pivM m r c j k' else m j k')) ∧ (∀ j, j < i → j = r ∨ m j c = 0 ∨ subB m n r c j = true) ∧ ∀ k', k' < k → stepK (m i k') (m i c) (m r k' / m r c) = true
section
variable {N n r c i k : Nat} {m : Mx} {V : Vx}
theorem pivM_r (m : Mx) (r c k : Nat) : pivM m r c r k = m r k / m r c := by unfold pivM; rw [if_pos rfl]
theorem pivM_i (m : Mx) {r i : Nat} (c k : Nat) (h : i ≠ r) : pivM m r c i k = m i k - m i c * (m r k / m r c) := by unfold pivM; rw [if_neg h]
theorem Stg.next (h : Stg N n r c m i V) (hi : i < n) (h0 : i = r ∨ m i c = 0) : Stg N n r c m (i + 1) V := by
  refine ⟨h.1, fun j k hj hk => ?_, fun j hj => ?_⟩
  · have h1 := h.2.1 j k hj hk
    by_cases e : j = i
    · subst e
      by_cases er : j = r
      · rw [if_pos (Or.inl er)] at h1 ⊢
        exact h1
      · rw [if_neg (by omega)] at h1
        rw [if_pos (by omega), pivM_zero er (h0.resolve_left er)]
        exact h1
    · have : (j = r ∨ j < i + 1) ↔ (j = r ∨ j < i) := by omega
      simp only [this]
      exact h1
  · by_cases e : j = i
    · subst e
      rcases h0 with h0 | h0
      · exact Or.inl h0
      · exact Or.inr (Or.inl h0)
    · exact h.2.2 j (by omega)
theorem Stg.inner (h : Stg N n r c m i V) : Stg2 N n r c m i 0 V := by
  refine ⟨h.1, fun j k hj hk => ?_, h.2.2, fun k' hk => absurd hk (by omega)⟩
  have : (j = r ∨ j < i ∨ (j = i ∧ k < 0)) ↔ (j = r ∨ j < i) := by omega
  simp only [this]
  exact h.2.1 j k hj hk
theorem Stg2.step (h : Stg2 N n r c m i k V) (hi : i ≠ r) {y : Rw} (hs : stepK (m i k) (m i c) (m r k / m r c) = true) (hy : isQ y (m i k - m i c * (m r k / m r c))) : Stg2 N n r c m i (k + 1) (put2 V i k y) := by
  refine ⟨h.1, fun j k' hj hk => ?_, h.2.2.1, fun k' hk => ?_⟩
  · by_cases e : j = i ∧ k' = k
    · rw [e.1, e.2, put2_at, if_pos (by omega), pivM_i m c k hi]
      exact hy
    · rw [put2_ne V y e]
      have : (j = r ∨ j < i ∨ (j = i ∧ k' < k + 1)) ↔ (j = r ∨ j < i ∨ (j = i ∧ k' < k)) := by omega
      simp only [this]
      exact h.2.1 j k' hj hk
  · by_cases e : k' = k
    · rw [e]; exact hs
    · exact h.2.2.2 k' (by omega)
theorem Stg2.bad (hN : N = n + 1) (hi : i < n) (hir : i ≠ r) (h0 : m i c ≠ 0) (hk : k < N) (hs : stepK (m i k) (m i c) (m r k / m r c) = false) : pivB m n r c = false := by
  have h1 : subB m n r c i = false := by
    unfold subB
    rw [List.all_eq_false]
    refine ⟨k, List.mem_range.2 (by omega), ?_⟩
    unfold stepK at hs
    rw [hs]
    simp
  unfold pivB
  rw [Bool.and_eq_false_iff]
  right
  rw [List.all_eq_false]
  refine ⟨i, List.mem_range.2 hi, ?_⟩
  rw [h1, Bool.or_false, decide_eq_true_iff]
  intro h
  rcases h with h | h
  · exact hir h
  · exact h0 h
theorem Stg2.done (hN : N = n + 1) (h : Stg2 N n r c m i N V) : Stg N n r c m (i + 1) V := by
  refine ⟨h.1, fun j k hj hk => ?_, fun j hj => ?_⟩
  · have : (j = r ∨ j < i + 1) ↔ (j = r ∨ j < i ∨ (j = i ∧ k < N)) := by omega
    simp only [this]
    exact h.2.1 j k hj hk
  · by_cases e : j = i
    · subst e
      refine Or.inr (Or.inr ?_)
      unfold subB
      rw [List.all_eq_true]
      intro k hk
      exact h.2.2.2 k (by have := List.mem_range.1 hk; omega)
    · exact h.2.2.1 j (by omega)
theorem Stg.pivot (h : Stg N n r c m n V) : pivB m n r c = true := by
  unfold pivB
  rw [Bool.and_eq_true, List.all_eq_true]
  refine ⟨h.1, fun j hj => ?_⟩
  have hj := List.mem_range.1 hj
  rcases h.2.2 j hj with e | e | e
  · rw [Bool.or_eq_true, decide_eq_true_iff]; exact Or.inl (Or.inl e)
  · rw [Bool.or_eq_true, decide_eq_true_iff]; exact Or.inl (Or.inr e)
  · rw [e, Bool.or_true]
theorem Stg.all (h : Stg N n r c m n V) : ∀ j k, j < n → k < N → isQ (V j k) (pivM m r c j k) := fun j k hj hk => by
  have := h.2.1 j k hj hk
  rw [if_pos (Or.inr hj)] at this
  exact this
/-- row r is divided, the others are not yet reduced -/
theorem Stg.start (hr : r < n) (h0 : m r c ≠ 0) (hN : N = n + 1) (hd : divB m n r c = true) (hr1 : ∀ k, k < N → ∃ o, o = divO1 (m r k) (m r c) ∧ OptF (V r k).s (V r k).l (V r k).t (V r k).k o) (ho : ∀ j k, j < n → k < N → j ≠ r → isQ (V j k) (m j k)) : Stg N n r c m 0 V := by
  refine ⟨hd, fun j k hj hk => ?_, fun j hj => absurd hj (by omega)⟩
  by_cases e : j = r
  · subst e
    rw [if_pos (Or.inl rfl), pivM_r]
    have hk2 : divK (m j k) (m j c) = true := by
      unfold divB at hd
      exact List.all_eq_true.1 hd k (List.mem_range.2 (by omega))
    obtain ⟨o, ho1, h1⟩ := hr1 k hk
    have e1 : divO1 (m j k) (m j c) = some (m j k / m j c) := if_pos hk2
    rw [e1] at ho1
    subst ho1
    have h3 := divK_fits hk2 h0
    generalize m j k / m j c = q at *
    exact ⟨h1, h3⟩
  · rw [if_neg (by omega)]
    exact ho j k hj hk e
end
end Go.Proofs.Ytdlcglndhhndpaa
