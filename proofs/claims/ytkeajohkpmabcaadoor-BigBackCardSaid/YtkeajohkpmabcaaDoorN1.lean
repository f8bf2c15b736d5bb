/- Plain law: lists of digits to the base 2^20, and the numbers that they stand for. No condition. -/
import Derived.WalkKit
namespace Go.Proofs.YtkeajohkpmabcaaDoor
set_option linter.unusedVariables false

/-- the number of a list of digits, the least one first -/
def val : List Int → Int
  | [] => 0
  | d :: l => d + 1048576 * val l
def DgOk (l : List Int) : Prop := ∀ d ∈ l, 0 ≤ d ∧ d < 1048576
def pw : Nat → Int
  | 0 => 1
  | n + 1 => 1048576 * pw n
theorem pw_pos : ∀ n, 0 < pw n
  | 0 => by simp [pw]
  | n + 1 => by rw [pw]; have := pw_pos n; omega
theorem pw_add : ∀ m n, pw (m + n) = pw m * pw n
  | 0, n => by simp [pw]
  | m + 1, n => by rw [show m + 1 + n = (m + n) + 1 by omega, pw, pw, pw_add m n, Int.mul_assoc]
theorem pw_le {m n : Nat} (h : m ≤ n) : pw m ≤ pw n := by
  obtain ⟨k, rfl⟩ := Nat.exists_eq_add_of_le h
  rw [pw_add]
  have h1 := pw_pos m
  have h2 := pw_pos k
  have := Int.mul_le_mul_of_nonneg_left (show 1 ≤ pw k by omega) (show 0 ≤ pw m by omega)
  omega
theorem pw_lt {m n : Nat} (h : m < n) : pw m < pw n := by
  have h1 := pw_le (show m + 1 ≤ n from h)
  rw [pw] at h1
  have := pw_pos m
  omega
theorem DgOk.nil : DgOk [] := fun d h => by cases h
theorem DgOk.cons {d : Int} {l : List Int} : DgOk (d :: l) ↔ (0 ≤ d ∧ d < 1048576) ∧ DgOk l := by
  unfold DgOk
  simp
theorem DgOk.append {a b : List Int} (ha : DgOk a) (hb : DgOk b) : DgOk (a ++ b) := fun d h => by
  rcases List.mem_append.1 h with h | h
  · exact ha d h
  · exact hb d h
theorem DgOk.take {l : List Int} (h : DgOk l) (n : Nat) : DgOk (l.take n) := fun d hd => h d (List.mem_of_mem_take hd)
theorem val_nonneg : ∀ {l : List Int}, DgOk l → 0 ≤ val l
  | [], _ => by simp [val]
  | d :: l, h => by
    obtain ⟨h1, h2⟩ := DgOk.cons.1 h
    rw [val]
    have := val_nonneg h2
    omega
theorem val_lt : ∀ {l : List Int}, DgOk l → val l < pw l.length
  | [], _ => by simp [val, pw]
  | d :: l, h => by
    obtain ⟨h1, h2⟩ := DgOk.cons.1 h
    rw [val, List.length_cons, pw]
    have := val_lt h2
    omega
theorem val_append : ∀ (a b : List Int), val (a ++ b) = val a + pw a.length * val b
  | [], b => by simp [val, pw]
  | d :: a, b => by
    rw [List.cons_append, val, val, val_append a b, List.length_cons, pw, Int.mul_add, Int.mul_assoc, Int.add_assoc]
theorem val_snoc (a : List Int) (d : Int) : val (a ++ [d]) = val a + pw a.length * d := by
  rw [val_append]
  simp [val]
theorem val_zeros : ∀ n, val (List.replicate n 0) = 0
  | 0 => rfl
  | n + 1 => by rw [List.replicate_succ, val, val_zeros n]; rfl
/-- no zero at the end -/
def Trm (l : List Int) : Prop := ∀ d, l.getLast? = some d → d ≠ 0
/-- a list that stands for its number alone -/
def Cn (l : List Int) : Prop := DgOk l ∧ Trm l
theorem Cn.nil : Cn [] := ⟨DgOk.nil, fun d h => by cases h⟩
theorem Cn.tail {d : Int} {l : List Int} (h : Cn (d :: l)) : Cn l := by
  refine ⟨(DgOk.cons.1 h.1).2, fun x hx => h.2 x ?_⟩
  cases l with
  | nil => cases hx
  | cons y l => simpa using hx
/-- what ends with a digit that is not 0 is at least so great -/
theorem Cn.ge : ∀ {l : List Int}, Cn l → l ≠ [] → pw (l.length - 1) ≤ val l
  | [], _, h => absurd rfl h
  | [d], h, _ => by
    obtain ⟨h1, h2⟩ := h
    have h3 := (DgOk.cons.1 h1).1
    have h4 := h2 d rfl
    simp [val, pw]
    omega
  | d :: e :: l, h, _ => by
    have h1 := Cn.ge (l := e :: l) h.tail (by simp)
    have h2 := (DgOk.cons.1 h.1).1
    rw [val]
    simp only [List.length_cons, Nat.add_sub_cancel] at h1 ⊢
    rw [pw]
    omega
theorem Cn.pos {l : List Int} (h : Cn l) (hn : l ≠ []) : 0 < val l := by
  have := h.ge hn
  have := pw_pos (l.length - 1)
  omega
theorem Cn.zero {l : List Int} (h : Cn l) : val l = 0 ↔ l = [] := ⟨fun e => by
  refine Classical.byContradiction fun hn => ?_
  have := h.pos hn
  omega, fun e => by subst e; rfl⟩
theorem Cn.unique : ∀ {a b : List Int}, Cn a → Cn b → val a = val b → a = b
  | [], b, ha, hb, h => ((hb.zero).1 h.symm).symm
  | d :: a, [], ha, hb, h => (ha.zero).1 h
  | d :: a, e :: b, ha, hb, h => by
    have h1 := (DgOk.cons.1 ha.1).1
    have h2 := (DgOk.cons.1 hb.1).1
    rw [val, val] at h
    have h3 : d = e := by omega
    subst h3
    rw [Cn.unique ha.tail hb.tail (by omega)]
/-- the digits of a number -/
def digs (n : Nat) : List Int := if h : n = 0 then [] else ((n % 1048576 : Nat) : Int) :: digs (n / 1048576)
termination_by n
decreasing_by omega
theorem digs_zero : digs 0 = [] := by rw [digs]; rfl
theorem digs_pos {n : Nat} (h : n ≠ 0) : digs n = ((n % 1048576 : Nat) : Int) :: digs (n / 1048576) := by rw [digs, dif_neg h]
theorem digs_val (n : Nat) : val (digs n) = (n : Int) := by
  induction n using Nat.strongRecOn with
  | ind n ih =>
    by_cases h : n = 0
    · subst h; rw [digs_zero]; rfl
    · rw [digs_pos h, val, ih (n / 1048576) (by omega)]
      omega
theorem digs_nil {n : Nat} : digs n = [] ↔ n = 0 := ⟨fun h => by
  have := digs_val n
  rw [h] at this
  have h2 : (0 : Int) = n := this
  omega, fun h => by subst h; exact digs_zero⟩
theorem digs_cn (n : Nat) : Cn (digs n) := by
  induction n using Nat.strongRecOn with
  | ind n ih =>
    by_cases h : n = 0
    · subst h; rw [digs_zero]; exact Cn.nil
    · rw [digs_pos h]
      have h1 := ih (n / 1048576) (by omega)
      refine ⟨DgOk.cons.2 ⟨by omega, h1.1⟩, fun d hd => ?_⟩
      by_cases e : n / 1048576 = 0
      · rw [e, digs_zero] at hd
        simp at hd
        omega
      · have hne : digs (n / 1048576) ≠ [] := fun e2 => e (digs_nil.1 e2)
        obtain ⟨y, l, hy⟩ := List.exists_cons_of_ne_nil hne
        refine h1.2 d ?_
        rw [hy] at hd ⊢
        simpa using hd
theorem Cn.digs {l : List Int} (h : Cn l) : l = Go.Proofs.YtkeajohkpmabcaaDoor.digs (val l).toNat := by
  refine h.unique (digs_cn _) ?_
  rw [digs_val]
  have := val_nonneg h.1
  omega
theorem digs_eq {l : List Int} (h : Cn l) {n : Nat} (he : val l = (n : Int)) : l = Go.Proofs.YtkeajohkpmabcaaDoor.digs n := h.unique (digs_cn _) (by rw [digs_val]; exact he)
theorem digs_len {n k : Nat} : (digs n).length ≤ k ↔ (n : Int) < pw k := by
  have h1 := val_lt (digs_cn n).1
  rw [digs_val] at h1
  refine ⟨fun h => by have := pw_le h; omega, fun h => ?_⟩
  refine Classical.byContradiction fun hc => ?_
  have hne : digs n ≠ [] := fun e => by rw [e] at hc; exact hc (Nat.zero_le _)
  have h2 := (digs_cn n).ge hne
  rw [digs_val] at h2
  have h3 := pw_le (show k ≤ (digs n).length - 1 by omega)
  omega
/-- zeros at the end cut off -/
def trimL (l : List Int) : List Int := (l.reverse.dropWhile (· == 0)).reverse
theorem trimL_snoc_zero (l : List Int) : trimL (l ++ [0]) = trimL l := by
  unfold trimL
  rw [List.reverse_append]
  simp
theorem trimL_snoc {l : List Int} {d : Int} (h : d ≠ 0) : trimL (l ++ [d]) = l ++ [d] := by
  unfold trimL
  rw [List.reverse_append]
  simp [h]
theorem trimL_nil : trimL [] = [] := rfl
theorem trimL_spec (l : List Int) (h : DgOk l) : Cn (trimL l) ∧ val (trimL l) = val l ∧ ∃ k, k ≤ l.length ∧ trimL l = l.take k := by
  induction hn : l.length generalizing l with
  | zero =>
    have : l = [] := List.eq_nil_of_length_eq_zero hn
    subst this
    exact ⟨Cn.nil, rfl, 0, Nat.le_refl _, rfl⟩
  | succ n ih =>
    obtain ⟨d, l', rfl⟩ : ∃ d l', l = l' ++ [d] := by
      have hne : l ≠ [] := fun e => by rw [e] at hn; cases hn
      exact ⟨l.getLast hne, l.dropLast, (List.dropLast_concat_getLast hne).symm⟩
    have hl' : l'.length = n := by simpa using hn
    have hd' : DgOk l' := fun x hx => h x (List.mem_append_left _ hx)
    by_cases e : d = 0
    · subst e
      obtain ⟨h1, h2, k, h3, h4⟩ := ih l' hd' hl'
      rw [trimL_snoc_zero]
      refine ⟨h1, by rw [h2, val_snoc]; omega, k, by omega, ?_⟩
      rw [h4, List.take_append_of_le_length (by omega)]
    · rw [trimL_snoc e]
      refine ⟨⟨h, fun x hx => ?_⟩, rfl, n + 1, by simp, ?_⟩
      · rw [List.getLast?_append] at hx
        simp at hx
        subst hx; exact e
      · rw [List.take_of_length_le (by simp; omega)]
theorem trimL_digs {l : List Int} (h : DgOk l) : trimL l = digs (val l).toNat := by
  obtain ⟨h1, h2, -⟩ := trimL_spec l h
  rw [← h2]
  exact h1.digs
end Go.Proofs.YtkeajohkpmabcaaDoor
