/- Plain law: decimal digits of a number, as text, and the number that a text stands for. No condition. -/
import Derived.Lib.ItoaNum
import Derived.Test.YtkeajohkpmabcaaDoorN1
namespace Go.Proofs.YtkeajohkpmabcaaDoor
set_option linter.unusedVariables false

/-- the last k decimal digits -/
def fw : Nat → Nat → List UInt8
  | 0, _ => []
  | k + 1, v => fw k (v / 10) ++ [UInt8.ofNat (48 + v % 10)]
theorem dec_big {v : Nat} (h : ¬ v < 10) : Lib.decDigits v = Lib.decDigits (v / 10) ++ [UInt8.ofNat (48 + v % 10)] := by
  rw [Lib.decDigits, dif_neg h]
theorem dec_small {v : Nat} (h : v < 10) : Lib.decDigits v = [UInt8.ofNat (48 + v)] := by
  rw [Lib.decDigits, dif_pos h]
theorem dec_ne (v : Nat) : Lib.decDigits v ≠ [] := by
  by_cases h : v < 10
  · rw [dec_small h]; simp
  · rw [dec_big h]; simp
theorem dec_split : ∀ (k v : Nat), v / 10 ^ k ≠ 0 → Lib.decDigits v = Lib.decDigits (v / 10 ^ k) ++ fw k v
  | 0, v, _ => by simp [fw]
  | k + 1, v, h => by
    have h1 : ¬ v < 10 := by
      intro h1
      apply h
      rw [Nat.pow_succ, Nat.mul_comm, ← Nat.div_div_eq_div_mul, Nat.div_eq_of_lt h1]
      simp
    have h2 : v / 10 ^ (k + 1) = v / 10 / 10 ^ k := by rw [Nat.pow_succ, Nat.mul_comm, Nat.div_div_eq_div_mul]
    rw [h2] at h ⊢
    rw [dec_big h1, dec_split k (v / 10) h, fw, List.append_assoc]
theorem fw_len : ∀ (k v : Nat), (fw k v).length = k
  | 0, _ => rfl
  | k + 1, v => by rw [fw, List.length_append, fw_len k]; rfl
theorem fw_mod : ∀ (k v : Nat), fw k (v % 10 ^ k) = fw k v
  | 0, _ => rfl
  | k + 1, v => by
    rw [fw, fw, ← fw_mod k (v / 10), ← fw_mod k (v % 10 ^ (k + 1) / 10)]
    have h1 : v % 10 ^ (k + 1) % 10 = v % 10 := by
      rw [Nat.pow_succ]
      exact Nat.mod_mul_left_mod v (10 ^ k) 10
    have h2 : v % 10 ^ (k + 1) / 10 = v / 10 % 10 ^ k := by
      rw [Nat.pow_succ, Nat.mul_comm]
      exact Nat.mod_mul_right_div_self v 10 (10 ^ k)
    rw [h1, h2, Nat.mod_mod]
/-- a number of at most k + 1 digits, filled up with zeros -/
theorem fw_pad : ∀ (k v : Nat), v < 10 ^ (k + 1) → fw (k + 1) v = List.replicate (k + 1 - (Lib.decDigits v).length) 48 ++ Lib.decDigits v ∧ (Lib.decDigits v).length ≤ k + 1
  | 0, v, h => by
    have h1 : v < 10 := by simpa using h
    rw [dec_small h1, fw, fw, Nat.mod_eq_of_lt h1]
    simp
  | k + 1, v, h => by
    by_cases h1 : v < 10
    · have h2 := (fw_pad k 0 (Nat.pow_pos (by omega))).1
      rw [dec_small (show 0 < 10 by omega)] at h2
      rw [fw, Nat.div_eq_of_lt h1, h2, dec_small h1, Nat.mod_eq_of_lt h1]
      refine ⟨?_, by simp⟩
      simp only [List.length_singleton]
      rw [show k + 1 + 1 - 1 = (k + 1 - 1) + 1 by omega, List.replicate_succ']
      rfl
    · have h2 : v / 10 < 10 ^ (k + 1) := by rw [Nat.pow_succ] at h; omega
      obtain ⟨h3, h4⟩ := fw_pad k (v / 10) h2
      rw [fw, h3, dec_big h1]
      refine ⟨?_, by simp; omega⟩
      rw [List.length_append, List.length_singleton, List.append_assoc, show k + 1 + 1 - ((Lib.decDigits (v / 10)).length + 1) = k + 1 - (Lib.decDigits (v / 10)).length by omega]
/-- a part of five digits -/
theorem dec_five (v : Nat) (h : v / 100000 ≠ 0) : Lib.decDigits v = Lib.decDigits (v / 100000) ++ (List.replicate (5 - (Lib.decDigits (v % 100000)).length) 48 ++ Lib.decDigits (v % 100000)) ∧ (Lib.decDigits (v % 100000)).length ≤ 5 := by
  obtain ⟨h1, h2⟩ := fw_pad 4 (v % 100000) (by omega)
  refine ⟨?_, h2⟩
  rw [dec_split 5 v (by simpa using h), ← h1]
  have := fw_mod 5 v
  simp only [show (10 ^ 5 : Nat) = 100000 by rfl] at this ⊢
  rw [this]
/-- is it a decimal digit -/
def isD (b : UInt8) : Bool := decide (48 ≤ b.toNat) && decide (b.toNat ≤ 57)
/-- the number that digits stand for -/
def numF (l : List UInt8) : Nat := l.foldl (fun a b => 10 * a + (b.toNat - 48)) 0
theorem numF_snoc (l : List UInt8) (b : UInt8) : numF (l ++ [b]) = 10 * numF l + (b.toNat - 48) := by
  unfold numF; rw [List.foldl_append]; rfl
theorem dig_nat {d : Nat} (h : d < 10) : (UInt8.ofNat (48 + d)).toNat = 48 + d := by
  show (48 + d) % 256 = 48 + d
  omega
theorem dig_of {b : UInt8} (h : isD b = true) : UInt8.ofNat (48 + (b.toNat - 48)) = b ∧ b.toNat - 48 < 10 := by
  unfold isD at h
  simp only [Bool.and_eq_true, decide_eq_true_eq] at h
  refine ⟨?_, by omega⟩
  rw [show 48 + (b.toNat - 48) = b.toNat by omega]
  exact UInt8.ofNat_toNat
theorem isD_dig {d : Nat} (h : d < 10) : isD (UInt8.ofNat (48 + d)) = true := by
  unfold isD
  rw [dig_nat h]
  simp only [Bool.and_eq_true, decide_eq_true_eq]
  omega
/-- the digits of a number: digits, and the number again -/
theorem dec_num (v : Nat) : numF (Lib.decDigits v) = v ∧ (Lib.decDigits v).all isD = true := by
  induction v using Nat.strongRecOn with
  | ind v ih =>
    by_cases h : v < 10
    · rw [dec_small h]
      refine ⟨?_, by rw [List.all_cons, isD_dig h]; rfl⟩
      have := numF_snoc [] (UInt8.ofNat (48 + v))
      rw [List.nil_append] at this
      rw [this, dig_nat h]
      simp [numF]
    · obtain ⟨h1, h2⟩ := ih (v / 10) (by omega)
      rw [dec_big h, numF_snoc, h1, dig_nat (Nat.mod_lt _ (by omega))]
      refine ⟨by omega, ?_⟩
      rw [List.all_append, h2, List.all_cons, isD_dig (Nat.mod_lt v (show 10 > 0 by omega))]
      rfl
theorem dec_head (v : Nat) (h : v ≠ 0) : ∃ b l, Lib.decDigits v = b :: l ∧ b ≠ 48 := by
  induction v using Nat.strongRecOn with
  | ind v ih =>
    by_cases h1 : v < 10
    · refine ⟨_, [], dec_small h1, ?_⟩
      intro e
      have := dig_nat h1
      rw [e] at this
      have : (48 : UInt8).toNat = 48 := rfl
      omega
    · obtain ⟨b, l, h2, h3⟩ := ih (v / 10) (by omega) (by omega)
      exact ⟨b, l ++ [UInt8.ofNat (48 + v % 10)], by rw [dec_big h1, h2]; rfl, h3⟩
theorem dec_inj {u v : Nat} (h : Lib.decDigits u = Lib.decDigits v) : u = v := by
  rw [← (dec_num u).1, h, (dec_num v).1]
theorem numF_pos {b : UInt8} {l : List UInt8} (hd : (b :: l).all isD = true) (hb : b ≠ 48) : numF (b :: l) ≠ 0 := by
  induction hn : l.length generalizing l with
  | zero =>
    have : l = [] := List.length_eq_zero_iff.1 hn
    subst this
    have h1 : isD b = true := by simpa using hd
    have h2 := (dig_of h1).1
    have h3 := numF_snoc [] b
    rw [List.nil_append] at h3
    rw [h3]
    intro e
    apply hb
    rw [← h2, show b.toNat - 48 = 0 by omega]
    rfl
  | succ n ih =>
    have h1 : l ≠ [] := by intro e; subst e; cases hn
    obtain ⟨l', c, rfl⟩ : ∃ l' c, l = l' ++ [c] := ⟨l.dropLast, l.getLast h1, (List.dropLast_concat_getLast h1).symm⟩
    rw [List.length_append, List.length_singleton] at hn
    have h2 := ih (l := l') (by simp only [List.all_cons, List.all_append, Bool.and_eq_true] at hd ⊢; exact ⟨hd.1, hd.2.1⟩) (by omega)
    rw [← List.cons_append, numF_snoc]
    omega
/-- digits that do not begin with a zero are those of their number -/
theorem num_dec {b : UInt8} {l : List UInt8} (hd : (b :: l).all isD = true) (hb : b ≠ 48) : Lib.decDigits (numF (b :: l)) = b :: l := by
  induction hn : l.length generalizing l with
  | zero =>
    have : l = [] := List.length_eq_zero_iff.1 hn
    subst this
    have h1 : isD b = true := by simpa using hd
    obtain ⟨h2, h4⟩ := dig_of h1
    have h3 := numF_snoc [] b
    rw [List.nil_append] at h3
    have h5 : numF ([] : List UInt8) = 0 := rfl
    rw [h3, h5, dec_small (by omega), Nat.mul_zero, Nat.zero_add, h2]
  | succ n ih =>
    have h1 : l ≠ [] := by intro e; subst e; cases hn
    obtain ⟨l', c, rfl⟩ : ∃ l' c, l = l' ++ [c] := ⟨l.dropLast, l.getLast h1, (List.dropLast_concat_getLast h1).symm⟩
    rw [List.length_append, List.length_singleton] at hn
    have hd2 : (b :: l').all isD = true ∧ isD c = true := by
      simp only [List.all_cons, List.all_append, Bool.and_eq_true, List.all_nil] at hd ⊢
      exact ⟨⟨hd.1, hd.2.1⟩, hd.2.2.1⟩
    have h2 := ih (l := l') hd2.1 (by omega)
    have h3 := numF_pos hd2.1 hb
    obtain ⟨h4, h5⟩ := dig_of hd2.2
    rw [← List.cons_append, numF_snoc]
    rw [dec_big (by omega), show (10 * numF (b :: l') + (c.toNat - 48)) / 10 = numF (b :: l') by omega, show (10 * numF (b :: l') + (c.toNat - 48)) % 10 = c.toNat - 48 by omega, h2, h4]
theorem numF_mono (l : List UInt8) (k : Nat) : numF (l.take k) ≤ numF l := by
  induction hn : l.length - k generalizing k with
  | zero => rw [List.take_of_length_le (by omega)]; exact Nat.le_refl _
  | succ n ih =>
    have h1 := ih (k + 1) (by omega)
    rw [List.take_add_one, List.getElem?_eq_getElem (show k < l.length by omega)] at h1
    simp only [Option.toList_some] at h1
    rw [numF_snoc] at h1
    omega
end Go.Proofs.YtkeajohkpmabcaaDoor
