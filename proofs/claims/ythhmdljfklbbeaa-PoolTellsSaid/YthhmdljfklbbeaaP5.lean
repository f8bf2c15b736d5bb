/- Walk over Admits of package pool. Conditions stand in the theorem. -/
import Derived.Test.YthhmdljfklbbeaaP4
import Derived.Test.YthhmdljfklbbeaaGen
namespace Go.Proofs.Ythhmdljfklbbeaa
open Go.RowKit
set_option linter.unusedVariables false

theorem Win.congr {w : World} {H : Nat} {p : Pl} {v : Value} {i : Nat} {s s' : Nat → Int} {win win' : Int} (h : Win w H p v i s win) (hs : ∀ j, j < i → s j = s' j) (hw : win = win') : Win w H p v i s' win' := by
  subst hw
  exact ⟨h.cw, h.ct, h.cs, h.fs, h.cn, h.fn, by rw [← ofF_congr hs]; exact h.own, h.lt⟩
abbrev RdII := Rd 1 (slE 1 (flat iEnc))
theorem ii_lasts : Lasts (slE 1 (flat iEnc)) := slE_lasts (flat_lasts _)
theorem Rd.atII {w : World} {B : Nat} {A : Option Addr} {n cap : Nat} {l : List (List Int)} (h : RdII w B A n cap l) {k : Nat} (hk : k < n) :
    ∃ b off A' n' cap' x, A = some ⟨b, off, none⟩ ∧ b < B ∧ l[k]? = some x ∧ w.cell? ⟨b, off + k, none⟩ = some (.slice A' n' cap') ∧ RdI w B A' n' cap' x := by
  obtain ⟨b, off, rfl, hb, hc⟩ := h.2.2.2 (by omega)
  have hl := h.1
  obtain ⟨cs, ⟨A', n', cap', rfl, hr⟩, _, hj⟩ := hc k (by omega)
  exact ⟨b, off, A', n', cap', l[k], rfl, hb, List.getElem?_eq_getElem (by omega), by simpa using hj 0 _ rfl, hr⟩

/-- the claims of a period, and their sum -/
def clAt (cl : List (List Int)) (k : Nat) : List Int := cl.getD k []
theorem clAt_eq {cl : List (List Int)} {k : Nat} {l : List Int} (h : cl[k]? = some l) : clAt cl k = l := by simp [clAt, List.getD, h]
def sI (cl : List (List Int)) (k : Nat) : Int := lsum (clAt cl k)
def okP (p : Pl) (l : List Int) : Bool := decide ((l.length : Int) ≤ p.co) && l.all (inB 1 p.ms)
/-- the sum of the window that ends with period i -/
def winS (p : Pl) (cl : List (List Int)) (i : Nat) : Int := sumN (sI cl) (i + 1) - sumN (sI cl) (wb p.wi.toNat i)
/-- the first i periods are admitted -/
def admN (p : Pl) (cl : List (List Int)) : Nat → Bool
  | 0 => true
  | i + 1 => admN p cl i && (okP p (clAt cl i) && decide (winS p cl i ≤ p.to))
def admF (p : Pl) (cl : List (List Int)) : Bool := rightF p && (decide (cl.length ≤ 1000) && admN p cl cl.length)
theorem admN_bad {p : Pl} {cl : List (List Int)} {i : Nat} (h : (okP p (clAt cl i) && decide (winS p cl i ≤ p.to)) = false) : ∀ n, i < n → admN p cl n = false
  | 0, hi => absurd hi (by omega)
  | n + 1, hi => by
    rw [admN]
    by_cases e : i = n
    · subst e; rw [h, Bool.and_false]
    · rw [admN_bad h n (by omega), Bool.false_and]
theorem admN_le {p : Pl} {cl : List (List Int)} : ∀ {n i : Nat}, admN p cl n = true → i ≤ n → admN p cl i = true
  | 0, i, h, hi => by rw [show i = 0 by omega]; rfl
  | n + 1, i, h, hi => by
    by_cases e : i = n + 1
    · rw [e]; exact h
    · rw [admN, Bool.and_eq_true] at h
      exact admN_le h.1 (by omega)
theorem admN_at {p : Pl} {cl : List (List Int)} {n i : Nat} (h : admN p cl n = true) (hi : i < n) : okP p (clAt cl i) = true ∧ winS p cl i ≤ p.to := by
  have h1 := admN_le h (show i + 1 ≤ n by omega)
  rw [admN, Bool.and_eq_true, Bool.and_eq_true, decide_eq_true_eq] at h1
  exact h1.2
theorem okP_sum {p : Pl} {l : List Int} (h : okP p l = true) (hp : rightF p = true) : ∀ k, k ≤ l.length → 0 ≤ sumN (gi l) k ∧ sumN (gi l) k ≤ 1000000000000000000 := by
  obtain ⟨_, _, _, h4, h5, _⟩ := rightF_iff hp
  rw [okP, Bool.and_eq_true, decide_eq_true_eq, List.all_eq_true] at h
  obtain ⟨ha, hb⟩ := h
  have hk : ∀ k, k ≤ l.length → 0 ≤ sumN (gi l) k ∧ sumN (gi l) k ≤ k * 1000000000000000 := by
    intro k
    induction k with
    | zero => intro _; simp [sumN]
    | succ k ih =>
      intro hk
      have h1 := ih (by omega)
      have h2 := hb (l[k]) (List.getElem_mem _)
      have h3 : gi l k = l[k] := gi_eq (List.getElem?_eq_getElem (by omega))
      simp [inB] at h2
      rw [sumN, h3]
      omega
  intro k hkl
  have h1 := hk k hkl
  omega
theorem sI_nonneg {p : Pl} {cl : List (List Int)} {n i : Nat} (h : admN p cl n = true) (hp : rightF p = true) (hi : i < n) : 0 ≤ sI cl i := (okP_sum (admN_at h hi).1 hp _ (Nat.le_refl _)).1
theorem sumN_mono {f : Nat → Int} {n : Nat} (hf : ∀ i, i < n → 0 ≤ f i) : ∀ a, a ≤ n → sumN f a ≤ sumN f n := by
  intro a ha
  have h := sumN_add f a (n - a)
  rw [show a + (n - a) = n by omega] at h
  have : ∀ m, m ≤ n - a → 0 ≤ sumN (fun i => f (a + i)) m := fun m => by
    induction m with
    | zero => intro _; simp [sumN]
    | succ m ih => intro hm; rw [sumN]; have := ih (by omega); have := hf (a + m) (by omega); omega
  have := this (n - a) (Nat.le_refl _)
  omega
/-- what the window's sum is before a new period begins -/
theorem win_bd {p : Pl} {cl : List (List Int)} {i : Nat} (h : admN p cl i = true) (hp : rightF p = true) : 0 ≤ sumN (sI cl) i - sumN (sI cl) (i - p.wi.toNat) ∧ sumN (sI cl) i - sumN (sI cl) (i - p.wi.toNat) ≤ 1000000000000000 ∧ ∀ j, j < i → 0 ≤ sI cl j ∧ sI cl j ≤ 1000000000000000 := by
  obtain ⟨_, _, h3, _, _, h6⟩ := rightF_iff hp
  have hnn := fun j hj => sI_nonneg h hp (i := j) hj
  refine ⟨by have := sumN_mono hnn (i - p.wi.toNat) (by omega); omega, ?_, fun j hj => ⟨hnn j hj, ?_⟩⟩
  · cases i with
    | zero => simp [sumN]
    | succ i =>
      have h7 := (admN_at h (Nat.lt_succ_self i)).2
      unfold winS wb at h7
      omega
  · have h7 := (admN_at h hj).2
    unfold winS at h7
    have h8 := sumN_mono (f := sI cl) (n := j) (fun i hi => hnn i (by omega)) (wb p.wi.toNat j) (by unfold wb; omega)
    rw [sumN] at h7
    omega
theorem winN_eq {p : Pl} {cl : List (List Int)} {i : Nat} (hp : 1 ≤ p.wi) : winN p i (sI cl) (sumN (sI cl) i - sumN (sI cl) (i - p.wi.toNat)) = sumN (sI cl) i - sumN (sI cl) (wb p.wi.toNat i) := by
  unfold winN wb
  by_cases h : p.wi ≤ (i : Int)
  · rw [if_pos h, show i + 1 - p.wi.toNat = (i - p.wi.toNat) + 1 by omega, sumN]
    omega
  · rw [if_neg h, show i + 1 - p.wi.toNat = i - p.wi.toNat by omega]
end Go.Proofs.Ythhmdljfklbbeaa
