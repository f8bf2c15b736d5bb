/- Plain law of layer 15: the latest times. -/
import Derived.Test.YthmnkmomgaamlaaG2
namespace Go.Proofs.Ythmnkmomgaamlaa
set_option linter.unusedVariables false

/-- the greatest times until an end -/
def Greatest (n : Nat) (all : List St) (en : Int) (L : Nat → Int) : Prop := Feas all L ∧ L 0 = 0 ∧ (∀ v, v < n → L v ≤ en) ∧ ∀ F, Feas all F → F 0 = 0 → (∀ v, v < n → F v ≤ en) → ∀ v, v < n → F v ≤ L v
structure Ls (n : Nat) (all : List St) (T : Nat → Int) (en : Int) (L : Nat → Int) : Prop where
  ge : ∀ v, v < n → T v ≤ L v
  le : ∀ v, v < n → L v ≤ en
  zero : L 0 = 0
  top : ∀ F, Feas all F → F 0 = 0 → (∀ v, v < n → F v ≤ en) → ∀ v, v < n → F v ≤ L v
theorem Ls.start {n : Nat} {all : List St} {T : Nat → Int} {en : Int} (hT : Least n all T) (he : ∀ v, v < n → T v ≤ en) (hen : 0 ≤ en) : Ls n all T en (fun v => if v = 0 then 0 else en) where
  ge := fun v hv => by
    by_cases e : v = 0
    · rw [if_pos e, e, hT.2.1]; exact Int.le_refl _
    · rw [if_neg e]; exact he v hv
  le := fun v hv => by
    by_cases e : v = 0
    · rw [if_pos e]; exact hen
    · rw [if_neg e]; exact Int.le_refl _
  zero := by simp
  top := fun F hF h0 hl v hv => by
    by_cases e : v = 0
    · rw [if_pos e, e, h0]; exact Int.le_refl _
    · rw [if_neg e]; exact hl v hv
theorem Ls.down {n : Nat} {all : List St} {T : Nat → Int} {en : Int} {L : Nat → Int} (h : Ls n all T en L) (hT : Least n all T) (hok : ∀ e, e < all.length → okS n (aAt all e)) {i : Nat} (hi : i < all.length) (hv : L (sT (aAt all i)) - sG (aAt all i) < L (sF (aAt all i))) :
    Ls n all T en (fun v => if v = sF (aAt all i) then L (sT (aAt all i)) - sG (aAt all i) else L v) := by
  obtain ⟨o1, o2, o3, -⟩ := okS_nat (hok i hi)
  have h1 := hT.1 i hi
  have h2 := h.ge _ o2
  refine ⟨fun v hv => ?_, fun v hv => ?_, ?_, fun F hF h0 hl v hv => ?_⟩
  · split
    · rename_i e; subst e; omega
    · exact h.ge v hv
  · split
    · have := h.le _ o1; omega
    · exact h.le v hv
  · by_cases e : 0 = sF (aAt all i)
    · exfalso
      rw [← e] at h1 hv
      have := hT.2.1
      have := h.zero
      omega
    · simp only [if_neg e]; exact h.zero
  · have h5 := h.top F hF h0 hl
    have h6 := hF i hi
    have h7 := h5 _ o2
    split
    · rename_i e; subst e; omega
    · exact h5 v hv
theorem sumN_le {f g : Nat → Int} : ∀ n, (∀ v, v < n → f v ≤ g v) → sumN f n ≤ sumN g n
  | 0, _ => Int.le_refl _
  | n + 1, h => by
    have h1 := sumN_le n (fun v hv => h v (by omega))
    have h2 := h n (by omega)
    rw [sumN, sumN]; omega
theorem sumN_lt {f g : Nat → Int} : ∀ n v0, v0 < n → f v0 < g v0 → (∀ v, v < n → f v ≤ g v) → sumN f n < sumN g n
  | 0, v0, h0, _, _ => absurd h0 (by omega)
  | n + 1, v0, h0, hlt, h => by
    rw [sumN, sumN]
    by_cases e : v0 = n
    · subst e
      have := sumN_le v0 (fun v hv => h v (by omega))
      omega
    · have h1 := sumN_lt n v0 (by omega) hlt (fun v hv => h v (by omega))
      have h2 := h n (by omega)
      omega
/-- how far the times may still fall -/
def pot (n : Nat) (T L : Nat → Int) : Nat := (sumN (fun v => L v - T v) n).toNat
theorem pot_down {n : Nat} {T L L' : Nat → Int} {f : Nat} (hf : f < n) (h1 : L' f < L f) (h2 : ∀ v, v < n → L' v ≤ L v) (h3 : ∀ v, v < n → T v ≤ L' v) : pot n T L' < pot n T L := by
  unfold pot
  have a := sumN_lt (f := fun v => L' v - T v) (g := fun v => L v - T v) n f hf (by show L' f - T f < L f - T f; omega) (fun v hv => by have := h2 v hv; show L' v - T v ≤ L v - T v; omega)
  have b := sumN_le (f := fun _ => 0) (g := fun v => L' v - T v) n (fun v hv => by have := h3 v hv; show 0 ≤ L' v - T v; omega)
  have c : sumN (fun _ => (0 : Int)) n = 0 := by
    clear a b
    induction n with
    | zero => rfl
    | succ n ih =>
      by_cases hn : f < n
      · rw [sumN, ih hn (fun v hv => h2 v (by omega)) (fun v hv => h3 v (by omega))]; rfl
      · have : ∀ m, sumN (fun _ => (0 : Int)) m = 0 := fun m => by
          induction m with
          | zero => rfl
          | succ m ih => rw [sumN, ih]; rfl
        exact this _
  omega
theorem Ls.fin {n : Nat} {all : List St} {T : Nat → Int} {en : Int} {L : Nat → Int} (h : Ls n all T en L) (hF : Feas all L) : Greatest n all en L := ⟨hF, h.zero, h.le, h.top⟩
end Go.Proofs.Ythmnkmomgaamlaa
