/- Plain law of layer 36: what PoolRuns says. -/
import Derived.Test.YthhmdljfklbbeaaP18
import Derived.Test.YthhmdljfklbbeaaRaw
namespace Go.Proofs.Ythhmdljfklbbeaa
open Go.RowKit
set_option linter.unusedVariables false

theorem clAt_drop (cl : List (List Int)) (i k : Nat) : clAt (cl.drop i) k = clAt cl (i + k) := by
  simp [clAt, List.getD, List.getElem?_drop]
theorem sI_drop (cl : List (List Int)) (i m : Nat) : sumN (sI (cl.drop i)) m = sumN (fun j => sI cl (i + j)) m := sumN_congr m fun j _ => by rw [sI, clAt_drop]; rfl
theorem Rd.dropK {α : Type} {sz : Nat} {R : Enc α} {w : World} {B : Nat} {b off n cap i : Nat} {l : List α} (h : Rd sz R w B (some ⟨b, off, none⟩) n cap l) (hi : i < n) :
    Rd sz R w B (some ⟨b, off + i * sz, none⟩) (n - i) (cap - i) (l.drop i) := by
  have hlen := h.len
  have hcaps := h.caps
  refine ⟨by rw [List.length_drop]; omega, by omega, ⟨by omega, by omega⟩, fun h1 => ?_⟩
  obtain ⟨b', off', e, hb, hc⟩ := h.2.2.2 (by omega)
  injection e with e; injection e with e1 e2 e3
  subst e1; subst e2
  refine ⟨b, off + i * sz, rfl, hb, fun k hk => ?_⟩
  rw [List.length_drop] at hk
  obtain ⟨cs, h1, h2, hj⟩ := hc (i + k) (by omega)
  refine ⟨cs, by simpa using h1, h2, fun j u hu => ?_⟩
  have := hj j u hu
  rw [show off + (i + k) * sz + j = off + i * sz + k * sz + j by rw [Nat.add_mul]; omega] at this
  exact this
/-- the claims of some periods, from one on -/
def wsum (cl : List (List Int)) (a r : Nat) : Int := sumN (fun j => sI cl (a + j)) r
theorem okP_bd {p : Pl} {l : List Int} (hp : rightF p = true) (hco : p.co ≤ 12) (h : okP p l = true) : ∀ j, j ≤ l.length → 0 ≤ sumN (gi l) j ∧ sumN (gi l) j ≤ 12000000000000000 := by
  obtain ⟨_, _, _, h4, h5, _⟩ := rightF_iff hp
  rw [okP, Bool.and_eq_true, decide_eq_true_eq, List.all_eq_true] at h
  have hk : ∀ k, k ≤ l.length → 0 ≤ sumN (gi l) k ∧ sumN (gi l) k ≤ k * 1000000000000000 := by
    intro k
    induction k with
    | zero => intro _; simp [sumN]
    | succ k ih =>
      intro hk
      have h1 := ih (by omega)
      have h2 := h.2 (l[k]) (List.getElem_mem _)
      have h3 : gi l k = l[k] := gi_eq (List.getElem?_eq_getElem (by omega))
      simp [inB] at h2
      rw [sumN, h3]; omega
  intro j hj
  have := hk j hj
  omega
theorem few_bd {p : Pl} {cl : List (List Int)} {n : Nat} (hp : rightF p = true) (hco : p.co ≤ 12) (hn : n ≤ 16) (h : ∀ a, a < n → okP p (clAt cl a) = true) (i m : Nat) : SumBd (cl.drop i) (min m (n - i)) := by
  intro k hk j hj
  rw [sI_drop]
  have h1 : ∀ r, i + r ≤ n → 0 ≤ sumN (fun j => sI cl (i + j)) r ∧ sumN (fun j => sI cl (i + j)) r ≤ r * 12000000000000000 := fun r => by
    induction r with
    | zero => intro _; simp [sumN]
    | succ r ih =>
      intro hr
      have h2 := ih (by omega)
      have h3 := okP_bd hp hco (h (i + r) (by omega)) _ (Nat.le_refl _)
      have e : sI cl (i + r) = sumN (gi (clAt cl (i + r))) (clAt cl (i + r)).length := rfl
      rw [sumN, e]; omega
  have h2 := h1 k (by omega)
  rw [clAt_drop] at hj ⊢
  have h3 := okP_bd hp hco (h (i + k) (by omega)) j hj
  omega
/-- admitted claims: every window -/
theorem adm_win {p : Pl} (hp : rightF p = true) {cl : List (List Int)} {n : Nat} (h : admN p cl n = true) {a r : Nat} (har : a + r ≤ n) (hr : r ≤ p.wi.toNat) : wsum cl a r ≤ p.to := by
  obtain ⟨_, _, h3, _, _, _⟩ := rightF_iff hp
  have hnn := fun j (hj : j < n) => sI_nonneg h hp hj
  unfold wsum
  cases r with
  | zero => simp only [sumN]; exact h3.1
  | succ r =>
    have h7 := (admN_at h (show a + r < n by omega)).2
    unfold winS at h7
    have h8 := sumN_add (sI cl) a (r + 1)
    have h9 := sumN_mono (f := sI cl) (n := a) (fun j hj => hnn j (by omega)) (wb p.wi.toNat (a + r)) (by unfold wb; omega)
    have e : a + (r + 1) = a + r + 1 := by omega
    rw [e] at h8
    omega
/-- and the other way -/
theorem win_adm {p : Pl} (hp : rightF p = true) {cl : List (List Int)} {n : Nat} (h1 : ∀ a, a < n → okP p (clAt cl a) = true) (h2 : ∀ a r, a < n → a + r ≤ n → r ≤ p.wi.toNat → wsum cl a r ≤ p.to) : ∀ i, i ≤ n → admN p cl i = true
  | 0, _ => rfl
  | i + 1, hi => by
    obtain ⟨_, _, h3, _, _, h6⟩ := rightF_iff hp
    rw [admN, win_adm hp h1 h2 i (by omega), h1 i (by omega)]
    have hw : wb p.wi.toNat i ≤ i ∧ i + 1 - wb p.wi.toNat i ≤ p.wi.toNat := by unfold wb; omega
    have h7 := h2 (wb p.wi.toNat i) (i + 1 - wb p.wi.toNat i) (by omega) (by omega) hw.2
    have h8 := sumN_add (sI cl) (wb p.wi.toNat i) (i + 1 - wb p.wi.toNat i)
    rw [show wb p.wi.toNat i + (i + 1 - wb p.wi.toNat i) = i + 1 by omega] at h8
    unfold wsum at h7
    have : winS p cl i ≤ p.to := by unfold winS; omega
    simpa using this
theorem sumR_ok {p : Pl} {l : List Int} (hp : rightF p = true) : decide (0 ≤ sumR p l) = okP p l := by
  unfold sumR
  cases h : okP p l
  · rfl
  · have := okP_sum h hp _ (Nat.le_refl _)
    simp only [if_true]
    rw [decide_eq_true_iff]; unfold lsum; omega
/-- the claims of the first periods -/
theorem mny_take (p : Pl) (cl : List (List Int)) (k : Nat) : ∀ i, i ≤ k → mny p (cl.take k) i = mny p cl i
  | 0, _ => rfl
  | i + 1, hi => by
    have e : sI (cl.take k) i = sI cl i := by
      unfold sI clAt
      rw [List.getD, List.getD, List.getElem?_take_of_lt (by omega)]
    rw [mny, mny, mny_take p cl k i (by omega), e]
theorem adm_take (p : Pl) (cl : List (List Int)) (k : Nat) : ∀ i, i ≤ k → admN p (cl.take k) i = admN p cl i
  | 0, _ => rfl
  | i + 1, hi => by
    have e : ∀ j, j < k → clAt (cl.take k) j = clAt cl j := fun j hj => by
      unfold clAt
      rw [List.getD, List.getD, List.getElem?_take_of_lt hj]
    have e2 : winS p (cl.take k) i = winS p cl i := by
      unfold winS
      have h1 : ∀ m, m ≤ k → sumN (sI (cl.take k)) m = sumN (sI cl) m := fun m hm => sumN_congr m fun j hj => by unfold sI; rw [e j (by omega)]
      rw [h1 _ hi, h1 _ (by unfold wb; omega)]
    rw [admN, admN, adm_take p cl k i (by omega), e i (by omega), e2]
end Go.Proofs.Ythhmdljfklbbeaa
