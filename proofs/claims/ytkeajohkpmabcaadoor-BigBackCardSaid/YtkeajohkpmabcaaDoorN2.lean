/- Plain law: sums, differences, products and comparisons of digits, step by step. No condition. -/
import Derived.Test.YtkeajohkpmabcaaDoorN1
import Derived.Test.YtkeajohkpmabcaaDoorBs
namespace Go.Proofs.YtkeajohkpmabcaaDoor
open Go.RowKit
set_option linter.unusedVariables false

/-- the number of the first n digits -/
def vF (f : Nat → Int) : Nat → Int
  | 0 => 0
  | n + 1 => vF f n + pw n * f n
theorem vF_congr {f g : Nat → Int} : ∀ n, (∀ i, i < n → f i = g i) → vF f n = vF g n
  | 0, _ => rfl
  | n + 1, h => by rw [vF, vF, vF_congr n (fun i hi => h i (by omega)), h n (by omega)]
theorem vF_shift (f : Nat → Int) : ∀ n, vF f (n + 1) = f 0 + 1048576 * vF (fun i => f (i + 1)) n
  | 0 => by simp [vF, pw]
  | n + 1 => by
    rw [vF, vF_shift f n, vF, pw, Int.mul_add, Int.mul_assoc]
    omega
theorem val_ofF {f : Nat → Int} {n : Nat} : val (ofF n f) = vF f n := by
  induction n generalizing f with
  | zero => rfl
  | succ n ih =>
    have h : ofF (n + 1) f = f 0 :: ofF n (fun i => f (i + 1)) := by simp [ofF, List.range_succ_eq_map, Function.comp_def]
    rw [h, val, ih, vF_shift]
theorem ofF_gi {l : List Int} {n : Nat} (h : l.length = n) : ofF n (gi l) = l := by
  apply List.ext_getElem?
  intro i
  by_cases hi : i < n
  · rw [ofF_get hi, List.getElem?_eq_getElem (by omega)]
    congr 1
    exact gi_eq (List.getElem?_eq_getElem (by omega))
  · rw [List.getElem?_eq_none (by rw [ofF_len]; omega), List.getElem?_eq_none (by omega)]
theorem val_vF {l : List Int} {n : Nat} (h : l.length = n) : val l = vF (gi l) n := by rw [← val_ofF, ofF_gi h]
/-- digits -/
def Dg (f : Nat → Int) (n : Nat) : Prop := ∀ i, i < n → 0 ≤ f i ∧ f i < 1048576
theorem Dg.ok {f : Nat → Int} {n : Nat} (h : Dg f n) : DgOk (ofF n f) := fun d hd => by
  obtain ⟨i, hi, rfl⟩ := ofF_mem hd
  exact h i hi
theorem DgOk.at {l : List Int} (h : DgOk l) {n : Nat} (hn : l.length = n) : Dg (gi l) n := fun i hi => by
  have h1 := List.getElem?_eq_getElem (show i < l.length by omega)
  rw [gi_eq h1]
  exact h _ (List.getElem_mem _)
theorem vF_nonneg {f : Nat → Int} : ∀ {n}, Dg f n → 0 ≤ vF f n
  | 0, _ => Int.le_refl _
  | n + 1, h => by
    rw [vF]
    have h1 := vF_nonneg (n := n) (fun i hi => h i (by omega))
    have h2 := (h n (by omega)).1
    have := Int.mul_nonneg (Int.le_of_lt (pw_pos n)) h2
    omega
theorem vF_lt {f : Nat → Int} : ∀ {n}, Dg f n → vF f n < pw n
  | 0, _ => by simp [vF, pw]
  | n + 1, h => by
    rw [vF, pw]
    have h1 := vF_lt (n := n) (fun i hi => h i (by omega))
    have h2 := (h n (by omega)).2
    have h3 := Int.mul_le_mul_of_nonneg_left (show f n ≤ 1048575 by omega) (Int.le_of_lt (pw_pos n))
    omega
/-- one step of a sum: what is written, and what is carried -/
theorem step_up {p c x r q : Int} (h : c + x = r + 1048576 * q) : p * r + (1048576 * p) * q = p * c + p * x := by
  have : p * r + (1048576 * p) * q = p * (r + 1048576 * q) := by
    rw [Int.mul_add, Int.mul_comm 1048576 p, Int.mul_assoc]
  rw [this, ← h, Int.mul_add]
theorem dm (x : Int) : x = x % 1048576 + 1048576 * (x / 1048576) := by have := Int.emod_add_mul_ediv x 1048576; omega
/-- the digits b, and zeros behind them -/
def padF (n : Nat) (f : Nat → Int) (i : Nat) : Int := if i < n then f i else 0
theorem vF_pad {f : Nat → Int} {n : Nat} : ∀ m, n ≤ m → vF (padF n f) m = vF f n
  | 0, h => by rw [show n = 0 by omega]; rfl
  | m + 1, h => by
    by_cases e : n = m + 1
    · subst e
      exact vF_congr _ fun i hi => if_pos hi
    · rw [vF, vF_pad m (by omega), padF, if_neg (by omega)]
      omega
/-- adding: before digit i -/
def AddI (a b o : Nat → Int) (i : Nat) (c : Int) : Prop := vF o i + pw i * c = vF a i + vF b i ∧ Dg o i ∧ 0 ≤ c ∧ c ≤ 1
theorem AddI.zero {a b o : Nat → Int} : AddI a b o 0 0 := ⟨by simp [vF, pw], fun i h => absurd h (by omega), by omega, by omega⟩
theorem AddI.step {a b o : Nat → Int} {i : Nat} {c : Int} (h : AddI a b o i c) (ha : 0 ≤ a i ∧ a i < 1048576) (hb : 0 ≤ b i ∧ b i < 1048576) (ho : o i = (c + a i + b i) % 1048576) : AddI a b o (i + 1) ((c + a i + b i) / 1048576) := by
  obtain ⟨h1, h2, h3, h4⟩ := h
  refine ⟨?_, fun j hj => ?_, by omega, by omega⟩
  · rw [vF, vF, vF, pw, ho, Int.add_assoc, step_up (c := c) (x := a i + b i) (by rw [← Int.add_assoc]; exact dm _), Int.mul_add]
    omega
  · by_cases e : j = i
    · subst e; rw [ho]; omega
    · exact h2 j (by omega)
theorem AddI.congr {a b o o' : Nat → Int} {i : Nat} {c : Int} (h : AddI a b o i c) (he : ∀ j, j < i → o' j = o j) : AddI a b o' i c :=
  ⟨by rw [vF_congr i he]; exact h.1, fun j hj => by rw [he j hj]; exact h.2.1 j hj, h.2.2⟩
theorem AddI.fin {a b o : Nat → Int} {n : Nat} {c : Int} (h : AddI a b o n c) (ho : o n = c) : vF o (n + 1) = vF a n + vF b n ∧ Dg o (n + 1) := by
  refine ⟨by rw [vF, ho]; exact h.1, fun j hj => ?_⟩
  by_cases e : j = n
  · subst e; rw [ho]; have := h.2.2; omega
  · exact h.2.1 j (by omega)
/-- subtracting: before digit i -/
def SubI (a b o : Nat → Int) (i : Nat) (c : Int) : Prop := vF o i = vF a i - vF b i + pw i * c ∧ Dg o i ∧ 0 ≤ c ∧ c ≤ 1
theorem SubI.zero {a b o : Nat → Int} : SubI a b o 0 0 := ⟨by simp [vF, pw], fun i h => absurd h (by omega), by omega, by omega⟩
theorem SubI.step {a b o : Nat → Int} {i : Nat} {c : Int} (h : SubI a b o i c) (ha : 0 ≤ a i ∧ a i < 1048576) (hb : 0 ≤ b i ∧ b i < 1048576) (ho : o i = (a i - c - b i) % 1048576) : SubI a b o (i + 1) (-((a i - c - b i) / 1048576)) := by
  obtain ⟨h1, h2, h3, h4⟩ := h
  refine ⟨?_, fun j hj => ?_, by omega, by omega⟩
  · have h5 := step_up (p := pw i) (c := -c) (x := a i - b i) (r := (a i - c - b i) % 1048576) (q := (a i - c - b i) / 1048576) (by have := dm (a i - c - b i); omega)
    rw [vF, vF, vF, pw, ho, h1, Int.mul_neg]
    rw [Int.mul_neg, Int.mul_sub] at h5
    omega
  · by_cases e : j = i
    · subst e; rw [ho]; omega
    · exact h2 j (by omega)
theorem SubI.congr {a b o o' : Nat → Int} {i : Nat} {c : Int} (h : SubI a b o i c) (he : ∀ j, j < i → o' j = o j) : SubI a b o' i c :=
  ⟨by rw [vF_congr i he]; exact h.1, fun j hj => by rw [he j hj]; exact h.2.1 j hj, h.2.2⟩
theorem SubI.fin {a b o : Nat → Int} {n : Nat} {c : Int} (h : SubI a b o n c) (hle : vF b n ≤ vF a n) : vF o n = vF a n - vF b n := by
  have h1 := vF_lt h.2.1
  have h2 := h.2.2
  have h3 := pw_pos n
  by_cases e : c = 0
  · subst e; have := h.1; omega
  · have e1 : c = 1 := by omega
    subst e1
    have := h.1
    omega
/-- one digit turned -/
theorem vF_upd {f : Nat → Int} {p : Nat} {x : Int} : ∀ n, vF (fun j => if j = p then x else f j) n = if p < n then vF f n + pw p * (x - f p) else vF f n
  | 0 => by simp [vF]
  | n + 1 => by
    rw [vF, vF_upd n, vF]
    by_cases h : p < n
    · rw [if_pos h, if_neg (by omega), if_pos (by omega)]; omega
    · by_cases e : n = p
      · subst e; rw [if_neg (by omega), if_pos rfl, if_pos (by omega), Int.mul_sub]; omega
      · rw [if_neg h, if_neg e, if_neg (by omega)]
/-- which of two lists of digits is less: the greatest digit that differs tells -/
theorem vF_less {f g : Nat → Int} {i : Nat} : ∀ n, i < n → Dg f n → Dg g n → f i < g i → (∀ j, i < j → j < n → f j = g j) → vF f n < vF g n
  | 0, h, _, _, _, _ => absurd h (by omega)
  | n + 1, h, hf, hg, hl, he => by
    rw [vF, vF]
    by_cases e : i = n
    · subst e
      have h1 := vF_lt (n := i) (fun j hj => hf j (by omega))
      have h2 := vF_nonneg (n := i) (fun j hj => hg j (by omega))
      have h3 := Int.mul_le_mul_of_nonneg_left (show f i + 1 ≤ g i by omega) (Int.le_of_lt (pw_pos i))
      rw [Int.mul_add, Int.mul_one] at h3
      omega
    · have h1 := vF_less n (by omega) (fun j hj => hf j (by omega)) (fun j hj => hg j (by omega)) hl (fun j h1 h2 => he j h1 (by omega))
      rw [he n (by omega) (by omega)]
      omega
def cmpI (x y : Int) : Int := if x < y then -1 else if y < x then 1 else 0
/-- a longer one is greater -/
theorem cn_longer {a b : List Int} (ha : DgOk a) (hb : Cn b) (h : a.length < b.length) : val a < val b := by
  have h1 := val_lt ha
  have h2 := hb.ge (fun e => by rw [e] at h; simp at h)
  have h3 := pw_le (show a.length ≤ b.length - 1 by omega)
  omega
end Go.Proofs.YtkeajohkpmabcaaDoor
