/- Plain law of layer 34: one sum that is another. -/
import Derived.Test.YtfidjhhpcjmioaaL8
import Derived.Test.YtfidjhhpcjmioaaL6
namespace Go.Proofs.Ytfidjhhpcjmioaa
open Alg
set_option linter.unusedVariables false

theorem sumsL_at (t k : Nat) (V : Nat → Vt) (n : Nat) {i : Nat} (hi : i < t) : fx (sumsL t k V n) i = (i : Int) + 1 ∧ fy (sumsL t k V n) i = sumC (cardsL t k V n) i n := shL_at _ t i hi
theorem sumsL_bd (t k : Nat) (V : Nat → Vt) (n : Nat) {i : Nat} (hi : i < t) : 0 ≤ fy (sumsL t k V n) i ∧ fy (sumsL t k V n) i < 2147483647 := by
  rw [(sumsL_at t k V n hi).2]; exact sumC_bd _ i n
theorem sumsL_nodup (t k : Nat) (V : Nat → Vt) (n : Nat) : (sumsL t k V n).Nodup := shL_nodup _ t
theorem bentL_get {l : List (Int × Int)} {i : Nat} {y : Int} {j : Nat} (h : j ≠ i) : (bentL l i y)[j]? = l[j]? := by
  by_cases hj : j < l.length
  · unfold bentL
    rw [ofF_get hj, if_neg h]
    unfold fx fy
    rw [List.getD, List.getElem?_eq_getElem hj]; rfl
  · rw [List.getElem?_eq_none (by rw [bentL_len]; omega), List.getElem?_eq_none (by omega)]
theorem restL_bent (l : List (Int × Int)) (i : Nat) (y : Int) : restL (bentL l i y) i = restL l i := by
  have h1 : (bentL l i y).take i = l.take i := by
    apply List.ext_getElem?
    intro j
    rw [List.getElem?_take, List.getElem?_take]
    by_cases hj : j < i
    · rw [if_pos hj, if_pos hj, bentL_get (by omega)]
    · rw [if_neg hj, if_neg hj]
  have h2 : (bentL l i y).drop (i + 1) = l.drop (i + 1) := by
    apply List.ext_getElem?
    intro j
    rw [List.getElem?_drop, List.getElem?_drop, bentL_get (by omega)]
  unfold restL
  rw [h1, h2]
theorem bentL_same {l : List (Int × Int)} {i : Nat} {y : Int} (h : y = fy l i) : bentL l i y = l := by
  subst h
  conv => rhs; rw [ofF_self (l := l) rfl]
  unfold bentL
  refine ofF_congr fun j hj => ?_
  by_cases e : j = i
  · subst e; rw [if_pos rfl]
  · rw [if_neg e]
theorem bentS_valid {t k n i : Nat} {V : Nat → Vt} {y : Int} (hk : 1 ≤ k) (hk2 : k ≤ 20) (ht : t ≤ 20) (hy : inF y = true) : validF (bentL (sumsL t k V n) i y) k = 0 := by
  refine valid_of hk hk2 (fun x hx => ?_) fun a b ha hb he => ?_
  · obtain ⟨j, hj, rfl⟩ := ofF_mem hx
    rw [sumsL_len] at hj
    have h1 := sumsL_at t k V n hj
    have h2 := sumC_bd (cardsL t k V n) j n
    have hyb : 0 ≤ y ∧ y < 2147483647 := by simpa [inF] using hy
    by_cases e : j = i
    · rw [if_pos e]; simp [shOk, inF, h1.1]; omega
    · rw [if_neg e]; simp [shOk, inF, h1.1, h1.2]; omega
  · rw [bentL_len, sumsL_len] at ha hb
    rw [(bentL_at _ i y a (by rw [sumsL_len]; exact ha)).1, (bentL_at _ i y b (by rw [sumsL_len]; exact hb)).1, (sumsL_at t k V n ha).1, (sumsL_at t k V n hb).1] at he
    omega
theorem bentS_open {t k n i : Nat} {V : Nat → Vt} {d : Int} (hk : 1 ≤ k) (hkt : k < t) (ht : t ≤ 20) (hn : n ≤ 1000) (hi : i < t) (hd : inF d = true) :
    ∃ f c, openF (bentL (sumsL t k V n) i ((fy (sumsL t k V n) i + d) % 2147483647)) k n = (f, c) ∧ (d = 0 → c = 0) ∧ (d ≠ 0 → c = 23) := by
  by_cases h0 : d = 0
  · subst h0
    have hb := sumsL_bd t k V n hi
    rw [bentL_same (by rw [Int.add_zero, Int.emod_eq_of_lt hb.1 hb.2])]
    exact ⟨_, 0, sums_open hk (by omega) ht hn (fun x hx => hx) (sumsL_nodup t k V n) (by rw [sumsL_len]; omega) (Int.le_refl _), fun _ => rfl, fun h => absurd rfl h⟩
  · refine ⟨0, 23, ?_, fun h => absurd h h0, fun _ => rfl⟩
    have hv := bentS_valid (n := n) (V := V) (i := i) hk (by omega) ht (inF_mod (fy (sumsL t k V n) i + d))
    have hj := bent_on (i := i) (d := d) (polyV_isP k V n) hv (by rw [bentL_len, sumsL_len]) (fun j hj => by rw [(bentL_at _ i _ j (by rw [sumsL_len]; exact hj)).1, (sumsL_at t k V n hj).1])
      (fun j hj hji => by rw [(bentL_at _ i _ j (by rw [sumsL_len]; exact hj)).2, if_neg hji, (sumsL_at t k V n hj).2]; exact sums_on t k V n j hj)
      (by rw [(bentL_at _ i _ i (by rw [sumsL_len]; exact hi)).2, if_pos rfl, ph_mod, ph_add, (sumsL_at t k V n hi).2, sums_on t k V n i hi]) hk hkt ht hi hd h0
    unfold openF
    rw [hj]; rfl
theorem restS_open {t k n i : Nat} {V : Nat → Vt} {y : Int} (hk : 1 ≤ k) (hkt : k < t) (ht : t ≤ 20) (hn : n ≤ 1000) (hi : i < t) : openF (restL (bentL (sumsL t k V n) i y) i) k n = (yesN V n, 0) := by
  rw [restL_bent]
  exact sums_open hk (by omega) ht hn (restL_sub _ i) (restL_nodup (sumsL_nodup t k V n) i) (by rw [restL_len (by rw [sumsL_len]; exact hi), sumsL_len]; omega) (Int.le_refl _)
theorem allS_open {t k n : Nat} {V : Nat → Vt} (hk : 1 ≤ k) (hkt : k ≤ t) (ht : t ≤ 20) (hn : n ≤ 1000) {c : Int} (hc : (n : Int) ≤ c) : openF (sumsL t k V n) k c = (yesN V n, 0) :=
  sums_open hk hkt ht hn (fun x hx => hx) (sumsL_nodup t k V n) (by rw [sumsL_len]; exact hkt) hc
end Go.Proofs.Ytfidjhhpcjmioaa
