/- Plain law of layer 7: one share of a secret that is changed. -/
import Derived.Test.YtfidjhhpcjmioaaShj
namespace Go.Proofs.Ytfidjhhpcjmioaa
open Alg

/-- the shares with the i-th changed -/
def bentL (l : List (Int × Int)) (i : Nat) (y : Int) : List (Int × Int) := ofF l.length fun j => if j = i then (fx l j, y) else (fx l j, fy l j)
theorem bentL_len (l : List (Int × Int)) (i : Nat) (y : Int) : (bentL l i y).length = l.length := ofF_len
theorem bentL_at (l : List (Int × Int)) (i : Nat) (y : Int) (j : Nat) (hj : j < l.length) : fx (bentL l i y) j = fx l j ∧ fy (bentL l i y) j = if j = i then y else fy l j := by
  have := ofF_get (f := fun j => if j = i then (fx l j, y) else (fx l j, fy l j)) hj
  by_cases e : j = i
  · rw [if_pos e] at this ⊢; exact ⟨fx_eq this, fy_eq this⟩
  · rw [if_neg e] at this ⊢; exact ⟨fx_eq this, fy_eq this⟩
/-- the places without the i-th -/
def skip (i j : Nat) : Nat := if j < i then j else j + 1
theorem skip_ne (i j : Nat) : skip i j ≠ i := by unfold skip; split <;> omega
theorem skip_inj {i a b : Nat} (h : skip i a = skip i b) : a = b := by
  unfold skip at h
  split at h <;> split at h <;> omega
theorem skip_lt {i j n : Nat} (h : j + 1 < n) : skip i j < n := by unfold skip; split <;> omega

section
variable {secret s : Int} {k n i : Nat} {d : Int}
theorem bent_valid (hk : 1 ≤ k) (hk2 : k ≤ 20) (hn : n ≤ 20) (y : Int) (hy : inF y = true) : validF (bentL (splitL secret k s n) i y) k = 0 := by
  refine valid_of hk hk2 (fun x hx => ?_) fun a b ha hb he => ?_
  · obtain ⟨j, hj, rfl⟩ := ofF_mem hx
    rw [splitL_len] at hj
    have h1 := splitL_at secret k s n j hj
    have h2 := hor_bd (coef secret s) ((j : Int) + 1) k k
    have hyb : 0 ≤ y ∧ y < 2147483647 := by simpa [inF] using hy
    by_cases e : j = i
    · rw [if_pos e]; simp [shOk, inF, h1.1]; omega
    · rw [if_neg e]; simp only [Int.toNat_natCast] at h1; simp [shOk, inF, h1.1, h1.2]; omega
  · rw [bentL_len, splitL_len] at ha hb
    rw [(bentL_at _ i y a (by rw [splitL_len]; exact ha)).1, (bentL_at _ i y b (by rw [splitL_len]; exact hb)).1, (splitL_at secret k s n a ha).1, (splitL_at secret k s n b hb).1] at he
    omega
theorem inF_add (a : Int) : inF (a % 2147483647) = true := inF_mod a
/-- more than enough: they do not agree -/
theorem bent_more (hk : 1 ≤ k) (hkn : k < n) (hn : n ≤ 20) (hi : i < n) (hd : inF d = true) (hd0 : d ≠ 0) :
    joinF (bentL (splitL secret k s n) i ((fy (splitL secret k s n) i + d) % 2147483647)) k = (0, 23) := by
  have hv := bent_valid (secret := secret) (s := s) (n := n) (i := i) hk (by omega) hn _ (inF_mod (fy (splitL secret k s n) i + d))
  generalize hB : bentL (splitL secret k s n) i ((fy (splitL secret k s n) i + d) % 2147483647) = B at *
  have hBl : B.length = n := by rw [← hB, bentL_len, splitL_len]
  have hBx : ∀ j, j < n → fx B j = (j : Int) + 1 := fun j hj => by
    rw [← hB, (bentL_at _ i _ j (by rw [splitL_len]; exact hj)).1, (splitL_at secret k s n j hj).1]
  have hBy : ∀ j, j < n → j ≠ i → ph (fy B j) = secP secret s k (ph ((j : Int) + 1)) := fun j hj hji => by
    rw [← hB, (bentL_at _ i _ j (by rw [splitL_len]; exact hj)).2, if_neg hji, (splitL_at secret k s n j hj).2, Int.toNat_natCast, ph_hor_all]; rfl
  have hBi : ph (fy B i) = secP secret s k (ph ((i : Int) + 1)) + ph d := by
    rw [← hB, (bentL_at _ i _ i (by rw [splitL_len]; exact hi)).2, if_pos rfl, ph_mod, ph_add, (splitL_at secret k s n i hi).2, Int.toNat_natCast, ph_hor_all]; rfl
  have hp := valid_pts hv
  have hag : agreeF B k = false := by
    rcases Bool.eq_false_or_eq_true (agreeF B k) with h | h
    · exfalso
      rw [agreeF_iff] at h
      obtain ⟨g, hg, he⟩ := lagV_isP (fx (B.take k)) (fy (B.take k)) k
      have hpk : Pts (fx (B.take k)) k := (hp.le (m := k) (by omega)).congr fun j hj => fx_take hj
      have hon : ∀ j, j < n → g (ph ((j : Int) + 1)) = ph (fy B j) := fun j hj => by
        by_cases h1 : j < k
        · have := lagV_at (Y := fy (B.take k)) hpk j h1
          rw [he, fx_take h1, fy_take h1, hBx j hj] at this
          exact this
        · have := h j (by omega) (by omega)
          rw [← he, ← hBx j hj, this]
      have hps : Pts (fun j => ((skip i j : Nat) : Int) + 1) k := ⟨fun j hj => by
          have := skip_lt (i := i) (show j + 1 < n by omega)
          show 0 ≤ ((skip i j : Nat) : Int) + 1 ∧ ((skip i j : Nat) : Int) + 1 ≤ 20
          omega, fun a b _ _ e => by
          have e' : ((skip i a : Nat) : Int) + 1 = ((skip i b : Nat) : Int) + 1 := e
          exact skip_inj (i := i) (by omega)⟩
      have heq := uniq hg (secP_isP secret s k) hps.apart (fun j hj => by
        have hl := skip_lt (i := i) (show j + 1 < n by omega)
        rw [hon _ hl, hBy _ hl (skip_ne i j)])
      have h1 := hon i hi
      rw [heq, hBi] at h1
      have h2 : ph d = ph 0 := by rw [ph_zero]; grind
      exact hd0 ((ph_eq hd (by decide)).1 h2)
    · exact h
  unfold joinF
  rw [if_pos hv, if_neg (by omega), Int.toNat_natCast, hag]; rfl
/-- exactly as many: they join to another secret -/
theorem bent_just (hk : 1 ≤ k) (hn : k ≤ 20) (hi : i < k) (hd : inF d = true) (hd0 : d ≠ 0) :
    ∃ c, joinF (bentL (splitL secret k s k) i ((fy (splitL secret k s k) i + d) % 2147483647)) k = (c, 0) ∧ c ≠ secret := by
  have hv := bent_valid (secret := secret) (s := s) (n := k) (i := i) hk (by omega) hn _ (inF_mod (fy (splitL secret k s k) i + d))
  generalize hB : bentL (splitL secret k s k) i ((fy (splitL secret k s k) i + d) % 2147483647) = B at *
  have hBl : B.length = k := by rw [← hB, bentL_len, splitL_len]
  have hBx : ∀ j, j < k → fx B j = (j : Int) + 1 := fun j hj => by
    rw [← hB, (bentL_at _ i _ j (by rw [splitL_len]; exact hj)).1, (splitL_at secret k s k j hj).1]
  have hBy : ∀ j, j < k → j ≠ i → ph (fy B j) = secP secret s k (ph ((j : Int) + 1)) := fun j hj hji => by
    rw [← hB, (bentL_at _ i _ j (by rw [splitL_len]; exact hj)).2, if_neg hji, (splitL_at secret k s k j hj).2, Int.toNat_natCast, ph_hor_all]; rfl
  have hBi : ph (fy B i) = secP secret s k (ph ((i : Int) + 1)) + ph d := by
    rw [← hB, (bentL_at _ i _ i (by rw [splitL_len]; exact hi)).2, if_pos rfl, ph_mod, ph_add, (splitL_at secret k s k i hi).2, Int.toNat_natCast, ph_hor_all]; rfl
  have hp := valid_pts hv
  have hag : agreeF B k = true := (agreeF_iff B k).2 fun j h1 h2 => by omega
  refine ⟨lagV (fx (B.take k)) (fy (B.take k)) k 0, by unfold joinF; rw [if_pos hv, if_neg (by omega), Int.toNat_natCast, hag]; rfl, fun hc => ?_⟩
  obtain ⟨g, hg, he⟩ := lagV_isP (fx (B.take k)) (fy (B.take k)) k
  have hpk : Pts (fx (B.take k)) k := (hp.le (m := k) (by omega)).congr fun j hj => fx_take hj
  have hon : ∀ j, j < k → g (ph ((j : Int) + 1)) = ph (fy B j) := fun j hj => by
    have := lagV_at (Y := fy (B.take k)) hpk j hj
    rw [he, fx_take hj, fy_take hj, hBx j hj] at this
    exact this
  have h0 : g (ph 0) = ph secret := by rw [← he, hc]
  have hps : Pts (fun j => if j = k - 1 then 0 else ((skip i j : Nat) : Int) + 1) k := by
    refine ⟨fun j hj => ?_, fun a b ha hb e => ?_⟩
    · show 0 ≤ (if j = k - 1 then (0 : Int) else _) ∧ (if j = k - 1 then (0 : Int) else _) ≤ 20
      by_cases e : j = k - 1
      · rw [if_pos e]; omega
      · rw [if_neg e]; have := skip_lt (i := i) (show j + 1 < k by omega); omega
    · have e' : (if a = k - 1 then (0 : Int) else ((skip i a : Nat) : Int) + 1) = (if b = k - 1 then (0 : Int) else ((skip i b : Nat) : Int) + 1) := e
      by_cases h1 : a = k - 1
      · by_cases h2 : b = k - 1
        · omega
        · rw [if_pos h1, if_neg h2] at e'; omega
      · by_cases h2 : b = k - 1
        · rw [if_neg h1, if_pos h2] at e'; omega
        · rw [if_neg h1, if_neg h2] at e'; exact skip_inj (i := i) (by omega)
  have heq := uniq hg (secP_isP secret s k) hps.apart (fun j hj => by
    show g (ph (if j = k - 1 then 0 else ((skip i j : Nat) : Int) + 1)) = secP secret s k (ph (if j = k - 1 then 0 else ((skip i j : Nat) : Int) + 1))
    by_cases e : j = k - 1
    · rw [if_pos e, h0, ph_zero, secP_zero secret s k hk]
    · rw [if_neg e]
      have hl := skip_lt (i := i) (show j + 1 < k by omega)
      rw [hon _ hl, hBy _ hl (skip_ne i j)])
  have h1 := hon i hi
  rw [heq, hBi] at h1
  have h2 : ph d = ph 0 := by rw [ph_zero]; grind
  exact hd0 ((ph_eq hd (by decide)).1 h2)
end
theorem splitL_nodup (secret k s : Int) (n : Nat) : (splitL secret k s n).Nodup := by
  unfold splitL
  refine List.pairwise_map.2 (List.Pairwise.imp (fun {a b} h e => h ?_) List.nodup_range)
  simp only [Prod.mk.injEq] at e
  omega
/-- without one share -/
def restL (l : List (Int × Int)) (i : Nat) : List (Int × Int) := l.take i ++ l.drop (i + 1)
theorem restL_sub (l : List (Int × Int)) (i : Nat) : ∀ x ∈ restL l i, x ∈ l := fun x hx => by
  rcases List.mem_append.1 hx with h | h
  · exact List.mem_of_mem_take h
  · exact List.mem_of_mem_drop h
theorem restL_nodup {l : List (Int × Int)} (h : l.Nodup) (i : Nat) : (restL l i).Nodup := by
  have hsub : (restL l i).Sublist l := by
    have h1 : (l.drop (i + 1)).Sublist (l.drop i) := List.drop_sublist_drop_left l (by omega)
    have h2 := List.Sublist.append (List.Sublist.refl (l.take i)) h1
    rw [List.take_append_drop] at h2
    exact h2
  exact List.Sublist.nodup hsub h
theorem restL_len {l : List (Int × Int)} {i : Nat} (h : i < l.length) : (restL l i).length = l.length - 1 := by
  unfold restL; simp; omega
end Go.Proofs.Ytfidjhhpcjmioaa
