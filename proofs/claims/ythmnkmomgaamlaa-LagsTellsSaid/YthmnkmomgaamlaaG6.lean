/- Plain law of layer 15: the greatest sums of ways are the least times, and give the greatest ones; circles, by the step behind. -/
import Derived.Test.YthmnkmomgaamlaaG3
import Derived.Test.YthmnkmomgaamlaaG4
namespace Go.Proofs.Ythmnkmomgaamlaa
set_option linter.unusedVariables false

theorem fw_zero {n : Nat} {l : List Lg} {D : Nat → Nat → Int} (h : Fw n (stepsF n l) n D) (hd : ∀ x, x < n → D x x ≤ 0) : ∀ i, i < n → 0 ≤ D 0 i := fun i hi => by
  by_cases e : i = 0
  · subst e; exact h.diag 0 hi
  · obtain ⟨k, hk, ha⟩ := steps_zero (l := l) i (by omega) hi
    have := h.edge k hk
    rw [ha] at this
    simpa [sF, sT, sG] using this
theorem fw_edge {n : Nat} {l : List Lg} {D : Nat → Nat → Int} (hr : rightL n l = true) (h : Fw n (stepsF n l) n D) {e : Nat} (he : e < (stepsF n l).length) : sF (aAt (stepsF n l) e) < n ∧ sT (aAt (stepsF n l) e) < n ∧ sG (aAt (stepsF n l) e) ≤ D (sF (aAt (stepsF n l) e)) (sT (aAt (stepsF n l) e)) ∧ -1048576 ≤ sG (aAt (stepsF n l) e) := by
  obtain ⟨o1, o2, _, o4, _⟩ := okS_nat (steps_okA hr e he)
  exact ⟨o1, o2, h.edge e he, o4⟩
theorem fw_low {n : Nat} {all : List St} {D : Nat → Nat → Int} (hn : n ≤ 14) (h : Fw n all n D) {x y : Nat} (hx : x < n) (hy : y < n) (hv : -1000000000000 < D x y) : -20000000000 ≤ D x y := by
  have h1 := h.low x y hx hy
  have : ∀ c : Nat, c ≤ 14 → (2 : Int) ^ c ≤ 16384 := by decide
  have h2 := this n hn
  generalize (2 : Int) ^ n = P at *
  omega
/-- the least times -/
theorem fw_least {n : Nat} {l : List Lg} {D : Nat → Nat → Int} {T : Nat → Int} (hr : rightL n l = true) (h : Fw n (stepsF n l) n D) (hd : ∀ x, x < n → D x x ≤ 0) (hT : Least n (stepsF n l) T) (hb : ∀ v, v < n → T v ≤ 100000000000) : ∀ i, i < n → D 0 i = T i := by
  have hz := fw_zero h hd
  obtain ⟨⟨n1, _⟩, _⟩ := rightL_iff hr
  have hF : Feas (stepsF n l) (D 0) := fun e he => by
    obtain ⟨o1, o2, o3, o4⟩ := fw_edge hr h he
    have h1 := hz _ o1
    have h2 := h.tri T hT.1 (fun v hv => ⟨hT.2.2.1 v hv, hb v hv⟩) (sF (aAt (stepsF n l) e)) o1 o1 0 (sT (aAt (stepsF n l) e)) (by omega) o2 (by omega) (by omega)
    omega
  intro i hi
  have h1 := hT.2.2.2 (D 0) hF hz i hi
  have h2 := h.sound T hT.1 0 i (by omega) hi (by have := hz i hi; omega)
  have h3 := hT.2.1
  omega
/-- what the reference says of a latest time -/
def LatR (n : Nat) (D : Nat → Nat → Int) (en : Int) (i : Nat) (R : Int) : Prop :=
  R ≤ en ∧ (∀ k, 0 < k → k < n → -1000000000000 < D i k → R ≤ en - D i k) ∧ (-1000000000000 < D i 0 → R ≤ -D i 0) ∧
  (R = en ∨ (∃ k, 0 < k ∧ k < n ∧ -1000000000000 < D i k ∧ R = en - D i k) ∨ (-1000000000000 < D i 0 ∧ R = -D i 0))
theorem fw_great {n : Nat} {l : List Lg} {D : Nat → Nat → Int} {T R : Nat → Int} {en : Int} (hn : n ≤ 14) (hr : rightL n l = true) (h : Fw n (stepsF n l) n D) (hd : ∀ x, x < n → D x x ≤ 0) (hT : Least n (stepsF n l) T) (hb : ∀ v, v < n → T v ≤ 100000000000)
    (hen : 0 ≤ en) (hle : ∀ i, i < n → D 0 i ≤ en) (hR : ∀ i, i < n → LatR n D en i (R i)) : Greatest n (stepsF n l) en R := by
  obtain ⟨⟨n1, _⟩, _⟩ := rightL_iff hr
  have n0 : 0 < n := by omega
  have d0 : D 0 0 = 0 := by have := h.diag 0 n0; have := hd 0 n0; omega
  have tri := fun m (hm : m < n) x y hx hy q1 q2 => h.tri T hT.1 (fun v hv => ⟨hT.2.2.1 v hv, hb v hv⟩) m hm hm x y hx hy q1 q2
  refine ⟨fun e he => ?_, ?_, fun v hv => (hR v hv).1, fun F hF h0 hFe v hv => ?_⟩
  · obtain ⟨o1, o2, o3, o4⟩ := fw_edge hr h he
    generalize sF (aAt (stepsF n l) e) = f at *
    generalize sT (aAt (stepsF n l) e) = t at *
    generalize sG (aAt (stepsF n l) e) = g at *
    obtain ⟨f1, f2, f3, -⟩ := hR f o1
    obtain ⟨-, -, -, t4⟩ := hR t o2
    rcases t4 with t4 | ⟨k, k1, k2, k3, k4⟩ | ⟨k3, k4⟩
    · by_cases e : t = 0
      · subst e
        have := f3 (by omega)
        omega
      · have := f2 t (by omega) o2 (by omega)
        omega
    · have h1 := tri t o2 f k o1 k2 (by omega) k3
      have h2 := fw_low hn h o2 k2 k3
      have h3 := f2 k k1 k2 (by omega)
      omega
    · have h1 := tri t o2 f 0 o1 n0 (by omega) k3
      have h2 := fw_low hn h o2 n0 k3
      have h3 := f3 (by omega)
      omega
  · obtain ⟨r1, r2, r3, r4⟩ := hR 0 n0
    have h3 := r3 (by omega)
    rcases r4 with r4 | ⟨k, k1, k2, k3, k4⟩ | ⟨k3, k4⟩
    · omega
    · have := hle k k2; omega
    · omega
  · obtain ⟨r1, r2, r3, r4⟩ := hR v hv
    rcases r4 with r4 | ⟨k, k1, k2, k3, k4⟩ | ⟨k3, k4⟩
    · have := hFe v hv; omega
    · have h1 := h.sound F hF v k hv k2 k3
      have := hFe k k2; omega
    · have h1 := h.sound F hF v 0 hv n0 k3
      omega
theorem great_unique {n : Nat} {all : List St} {en : Int} {L L' : Nat → Int} (h : Greatest n all en L) (h' : Greatest n all en L') : ∀ v, v < n → L v = L' v := fun v hv => by
  have h1 := h.2.2.2 L' h'.1 h'.2.1 h'.2.2.1 v hv
  have h2 := h'.2.2.2 L h.1 h.2.1 h.2.2.1 v hv
  omega
/-- the same circle, by the step behind -/
def lnk2 (all C : List St) (j : Nat) : Bool := all.contains (aAt C j) && decide ((aAt C ((j + 1) % C.length)).1 = (aAt C j).2.1)
theorem lnk_iff {all C : List St} (hC : 1 ≤ C.length) : (∀ j, j < C.length → lnk all C j = true) ↔ ∀ j, j < C.length → lnk2 all C j = true := by
  unfold lnk lnk2
  refine ⟨fun h j hj => ?_, fun h j hj => ?_⟩
  · have h1 := h j hj
    have h2 := h ((j + 1) % C.length) (Nat.mod_lt _ (by omega))
    rw [Bool.and_eq_true, decide_eq_true_eq] at h1 h2
    rw [Bool.and_eq_true, decide_eq_true_eq]
    refine ⟨h1.2, ?_⟩
    have e : prevI C.length ((j + 1) % C.length) = j := by
      unfold prevI
      by_cases e : j + 1 = C.length
      · rw [e, Nat.mod_self, if_pos rfl]; omega
      · rw [Nat.mod_eq_of_lt (by omega), if_neg (by omega)]; omega
    rw [e] at h2
    exact h2.1
  · have h1 := h j hj
    have hp : prevI C.length j < C.length := by unfold prevI; split <;> omega
    have h2 := h (prevI C.length j) hp
    rw [Bool.and_eq_true, decide_eq_true_eq] at h1 h2
    rw [Bool.and_eq_true, decide_eq_true_eq]
    refine ⟨?_, h1.1⟩
    have e : (prevI C.length j + 1) % C.length = j := by
      unfold prevI
      by_cases e : j = 0
      · rw [if_pos e, show C.length - 1 + 1 = C.length by omega, Nat.mod_self]; omega
      · rw [if_neg e, show j - 1 + 1 = j by omega, Nat.mod_eq_of_lt hj]
    rw [e] at h2
    exact h2.2
end Go.Proofs.Ythmnkmomgaamlaa
