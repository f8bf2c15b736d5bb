/- Texts laid together: each begins with what it shows, and the conditions stand in its theorems. -/
import Derived.Lib.ItoaNum
import Derived.Test.YtkeajohkpmabcaaGreatDoorA
import Derived.Test.YtkeajohkpmabcaaGreatDoorC
import Derived.Lib.ItoaMem
import Derived.Lib.Join
import Derived.Lib.SlTrimSet
import Derived.Lib.Strings
/- Plain law: decimal digits of a number, as text, and the number that a text stands for. No condition. -/
namespace Go.Proofs.YtkeajohkpmabcaaGreatDoor
set_option linter.unusedVariables false
set_option linter.unusedSimpArgs false

/-- the last k decimal digits -/
def fw : Nat → Nat → List UInt8
  | 0, _ => []
  | k + 1, v => fw k (v / 10) ++ [UInt8.ofNat (48 + v % 10)]
theorem dec_big {v : Nat} (h : ¬ v < 10) : Lib.decDigits v = Lib.decDigits (v / 10) ++ [UInt8.ofNat (48 + v % 10)] := by
  rw [Lib.decDigits, dif_neg h]
theorem dec_small {v : Nat} (h : v < 10) : Lib.decDigits v = [UInt8.ofNat (48 + v)] := by
  rw [Lib.decDigits, dif_pos h]
theorem dec_ne (v : Nat) : Lib.decDigits v ≠ [] := by
  by_cases h : v < 10
  · rw [dec_small h]; simp
  · rw [dec_big h]; simp
theorem dec_split : ∀ (k v : Nat), v / 10 ^ k ≠ 0 → Lib.decDigits v = Lib.decDigits (v / 10 ^ k) ++ fw k v
  | 0, v, _ => by simp [fw]
  | k + 1, v, h => by
    have h1 : ¬ v < 10 := by
      intro h1
      apply h
      rw [Nat.pow_succ, Nat.mul_comm, ← Nat.div_div_eq_div_mul, Nat.div_eq_of_lt h1]
      simp
    have h2 : v / 10 ^ (k + 1) = v / 10 / 10 ^ k := by rw [Nat.pow_succ, Nat.mul_comm, Nat.div_div_eq_div_mul]
    rw [h2] at h ⊢
    rw [dec_big h1, dec_split k (v / 10) h, fw, List.append_assoc]
theorem fw_len : ∀ (k v : Nat), (fw k v).length = k
  | 0, _ => rfl
  | k + 1, v => by rw [fw, List.length_append, fw_len k]; rfl
theorem fw_mod : ∀ (k v : Nat), fw k (v % 10 ^ k) = fw k v
  | 0, _ => rfl
  | k + 1, v => by
    rw [fw, fw, ← fw_mod k (v / 10), ← fw_mod k (v % 10 ^ (k + 1) / 10)]
    have h1 : v % 10 ^ (k + 1) % 10 = v % 10 := by
      rw [Nat.pow_succ]
      exact Nat.mod_mul_left_mod v (10 ^ k) 10
    have h2 : v % 10 ^ (k + 1) / 10 = v / 10 % 10 ^ k := by
      rw [Nat.pow_succ, Nat.mul_comm]
      exact Nat.mod_mul_right_div_self v 10 (10 ^ k)
    rw [h1, h2, Nat.mod_mod]
/-- a number of at most k + 1 digits, filled up with zeros -/
theorem fw_pad : ∀ (k v : Nat), v < 10 ^ (k + 1) → fw (k + 1) v = List.replicate (k + 1 - (Lib.decDigits v).length) 48 ++ Lib.decDigits v ∧ (Lib.decDigits v).length ≤ k + 1
  | 0, v, h => by
    have h1 : v < 10 := by simpa using h
    rw [dec_small h1, fw, fw, Nat.mod_eq_of_lt h1]
    simp
  | k + 1, v, h => by
    by_cases h1 : v < 10
    · have h2 := (fw_pad k 0 (Nat.pow_pos (by omega))).1
      rw [dec_small (show 0 < 10 by omega)] at h2
      rw [fw, Nat.div_eq_of_lt h1, h2, dec_small h1, Nat.mod_eq_of_lt h1]
      refine ⟨?_, by simp⟩
      simp only [List.length_singleton]
      rw [show k + 1 + 1 - 1 = (k + 1 - 1) + 1 by omega, List.replicate_succ']
      rfl
    · have h2 : v / 10 < 10 ^ (k + 1) := by rw [Nat.pow_succ] at h; omega
      obtain ⟨h3, h4⟩ := fw_pad k (v / 10) h2
      rw [fw, h3, dec_big h1]
      refine ⟨?_, by simp; omega⟩
      rw [List.length_append, List.length_singleton, List.append_assoc, show k + 1 + 1 - ((Lib.decDigits (v / 10)).length + 1) = k + 1 - (Lib.decDigits (v / 10)).length by omega]
/-- a part of five digits -/
theorem dec_five (v : Nat) (h : v / 100000 ≠ 0) : Lib.decDigits v = Lib.decDigits (v / 100000) ++ (List.replicate (5 - (Lib.decDigits (v % 100000)).length) 48 ++ Lib.decDigits (v % 100000)) ∧ (Lib.decDigits (v % 100000)).length ≤ 5 := by
  obtain ⟨h1, h2⟩ := fw_pad 4 (v % 100000) (by omega)
  refine ⟨?_, h2⟩
  rw [dec_split 5 v (by simpa using h), ← h1]
  have := fw_mod 5 v
  simp only [show (10 ^ 5 : Nat) = 100000 by rfl] at this ⊢
  rw [this]
/-- is it a decimal digit -/
def isD (b : UInt8) : Bool := decide (48 ≤ b.toNat) && decide (b.toNat ≤ 57)
/-- the number that digits stand for -/
def numF (l : List UInt8) : Nat := l.foldl (fun a b => 10 * a + (b.toNat - 48)) 0
theorem numF_snoc (l : List UInt8) (b : UInt8) : numF (l ++ [b]) = 10 * numF l + (b.toNat - 48) := by
  unfold numF; rw [List.foldl_append]; rfl
theorem dig_nat {d : Nat} (h : d < 10) : (UInt8.ofNat (48 + d)).toNat = 48 + d := by
  show (48 + d) % 256 = 48 + d
  omega
theorem dig_of {b : UInt8} (h : isD b = true) : UInt8.ofNat (48 + (b.toNat - 48)) = b ∧ b.toNat - 48 < 10 := by
  unfold isD at h
  simp only [Bool.and_eq_true, decide_eq_true_eq] at h
  refine ⟨?_, by omega⟩
  rw [show 48 + (b.toNat - 48) = b.toNat by omega]
  exact UInt8.ofNat_toNat
theorem isD_dig {d : Nat} (h : d < 10) : isD (UInt8.ofNat (48 + d)) = true := by
  unfold isD
  rw [dig_nat h]
  simp only [Bool.and_eq_true, decide_eq_true_eq]
  omega
/-- the digits of a number: digits, and the number again -/
theorem dec_num (v : Nat) : numF (Lib.decDigits v) = v ∧ (Lib.decDigits v).all isD = true := by
  induction v using Nat.strongRecOn with
  | ind v ih =>
    by_cases h : v < 10
    · rw [dec_small h]
      refine ⟨?_, by rw [List.all_cons, isD_dig h]; rfl⟩
      have := numF_snoc [] (UInt8.ofNat (48 + v))
      rw [List.nil_append] at this
      rw [this, dig_nat h]
      simp [numF]
    · obtain ⟨h1, h2⟩ := ih (v / 10) (by omega)
      rw [dec_big h, numF_snoc, h1, dig_nat (Nat.mod_lt _ (by omega))]
      refine ⟨by omega, ?_⟩
      rw [List.all_append, h2, List.all_cons, isD_dig (Nat.mod_lt v (show 10 > 0 by omega))]
      rfl
theorem dec_head (v : Nat) (h : v ≠ 0) : ∃ b l, Lib.decDigits v = b :: l ∧ b ≠ 48 := by
  induction v using Nat.strongRecOn with
  | ind v ih =>
    by_cases h1 : v < 10
    · refine ⟨_, [], dec_small h1, ?_⟩
      intro e
      have := dig_nat h1
      rw [e] at this
      have : (48 : UInt8).toNat = 48 := rfl
      omega
    · obtain ⟨b, l, h2, h3⟩ := ih (v / 10) (by omega) (by omega)
      exact ⟨b, l ++ [UInt8.ofNat (48 + v % 10)], by rw [dec_big h1, h2]; rfl, h3⟩
theorem dec_inj {u v : Nat} (h : Lib.decDigits u = Lib.decDigits v) : u = v := by
  rw [← (dec_num u).1, h, (dec_num v).1]
theorem numF_pos {b : UInt8} {l : List UInt8} (hd : (b :: l).all isD = true) (hb : b ≠ 48) : numF (b :: l) ≠ 0 := by
  induction hn : l.length generalizing l with
  | zero =>
    have : l = [] := List.length_eq_zero_iff.1 hn
    subst this
    have h1 : isD b = true := by simpa using hd
    have h2 := (dig_of h1).1
    have h3 := numF_snoc [] b
    rw [List.nil_append] at h3
    rw [h3]
    intro e
    apply hb
    rw [← h2, show b.toNat - 48 = 0 by omega]
    rfl
  | succ n ih =>
    have h1 : l ≠ [] := by intro e; subst e; cases hn
    obtain ⟨l', c, rfl⟩ : ∃ l' c, l = l' ++ [c] := ⟨l.dropLast, l.getLast h1, (List.dropLast_concat_getLast h1).symm⟩
    rw [List.length_append, List.length_singleton] at hn
    have h2 := ih (l := l') (by simp only [List.all_cons, List.all_append, Bool.and_eq_true] at hd ⊢; exact ⟨hd.1, hd.2.1⟩) (by omega)
    rw [← List.cons_append, numF_snoc]
    omega
/-- digits that do not begin with a zero are those of their number -/
theorem num_dec {b : UInt8} {l : List UInt8} (hd : (b :: l).all isD = true) (hb : b ≠ 48) : Lib.decDigits (numF (b :: l)) = b :: l := by
  induction hn : l.length generalizing l with
  | zero =>
    have : l = [] := List.length_eq_zero_iff.1 hn
    subst this
    have h1 : isD b = true := by simpa using hd
    obtain ⟨h2, h4⟩ := dig_of h1
    have h3 := numF_snoc [] b
    rw [List.nil_append] at h3
    have h5 : numF ([] : List UInt8) = 0 := rfl
    rw [h3, h5, dec_small (by omega), Nat.mul_zero, Nat.zero_add, h2]
  | succ n ih =>
    have h1 : l ≠ [] := by intro e; subst e; cases hn
    obtain ⟨l', c, rfl⟩ : ∃ l' c, l = l' ++ [c] := ⟨l.dropLast, l.getLast h1, (List.dropLast_concat_getLast h1).symm⟩
    rw [List.length_append, List.length_singleton] at hn
    have hd2 : (b :: l').all isD = true ∧ isD c = true := by
      simp only [List.all_cons, List.all_append, Bool.and_eq_true, List.all_nil] at hd ⊢
      exact ⟨⟨hd.1, hd.2.1⟩, hd.2.2.1⟩
    have h2 := ih (l := l') hd2.1 (by omega)
    have h3 := numF_pos hd2.1 hb
    obtain ⟨h4, h5⟩ := dig_of hd2.2
    rw [← List.cons_append, numF_snoc]
    rw [dec_big (by omega), show (10 * numF (b :: l') + (c.toNat - 48)) / 10 = numF (b :: l') by omega, show (10 * numF (b :: l') + (c.toNat - 48)) % 10 = c.toNat - 48 by omega, h2, h4]
theorem numF_mono (l : List UInt8) (k : Nat) : numF (l.take k) ≤ numF l := by
  induction hn : l.length - k generalizing k with
  | zero => rw [List.take_of_length_le (by omega)]; exact Nat.le_refl _
  | succ n ih =>
    have h1 := ih (k + 1) (by omega)
    rw [List.take_add_one, List.getElem?_eq_getElem (show k < l.length by omega)] at h1
    simp only [Option.toList_some] at h1
    rw [numF_snoc] at h1
    omega
end Go.Proofs.YtkeajohkpmabcaaGreatDoor
/- Plain law: the text of a big integer, and the big integer of a text. No condition. -/
namespace Go.Proofs.YtkeajohkpmabcaaGreatDoor
open Go.RowKit
set_option linter.unusedVariables false
set_option linter.unusedSimpArgs false

/-- does it begin with a minus -/
def negL (s : List UInt8) : Bool := match s with | [] => false | b :: _ => b == 45
def restL (s : List UInt8) : List UInt8 := match s with | [] => [] | b :: l => if b == 45 then l else s
/-- digits that do not begin with a zero -/
def goodT (t : List UInt8) : Bool := match t with | [] => false | b :: l => b != 48 && (b :: l).all isD
def formL (s : List UInt8) : Bool := s == [48] || goodT (restL s)
def readN (s : List UInt8) : Int := if negL s = true then -(numF (restL s) : Int) else (numF (restL s) : Int)
def readZ (s : List UInt8) : Int := if formL s = true then resZ true (readN s) else 0
def readE (s : List UInt8) : Int := if formL s = true then errZ true (readN s) else 2
theorem goodT_cons {b : UInt8} {l : List UInt8} : goodT (b :: l) = true ↔ b ≠ 48 ∧ (b :: l).all isD = true := by
  unfold goodT
  rw [Bool.and_eq_true, bne_iff_ne]
theorem goodT_dec {v : Nat} (h : v ≠ 0) : goodT (Lib.decDigits v) = true := by
  obtain ⟨b, l, h1, h2⟩ := dec_head v h
  rw [h1, goodT_cons, ← h1]
  exact ⟨h2, (dec_num v).2⟩
theorem dec_noneg (v : Nat) : negL (Lib.decDigits v) = false ∧ restL (Lib.decDigits v) = Lib.decDigits v := by
  have h := (dec_num v).2
  cases hd : Lib.decDigits v with
  | nil => exact ⟨rfl, rfl⟩
  | cons b l =>
    rw [hd, List.all_cons, Bool.and_eq_true] at h
    have hb : (b == 45) = false := by
      rw [beq_eq_false_iff_ne]
      rintro rfl
      simp [isD] at h
    simp only [negL, restL, hb]
    exact ⟨trivial, rfl⟩
theorem itoa_zero : Lib.itoa 0 = [48] := by
  have := Lib.itoa_nonneg 0
  rw [dec_small (by omega)] at this
  exact this
theorem itoa_form (z : Int) : formL (Lib.itoa z) = true ∧ readN (Lib.itoa z) = z := by
  rcases Int.lt_trichotomy z 0 with h | h | h
  · obtain ⟨v, rfl⟩ : ∃ v : Nat, z = -(v : Int) := ⟨z.natAbs, by omega⟩
    rw [Lib.itoa_neg v (by omega)]
    unfold formL readN
    have h1 : restL (45 :: Lib.decDigits v) = Lib.decDigits v := rfl
    have h2 : negL (45 :: Lib.decDigits v) = true := rfl
    rw [h1, h2, goodT_dec (by omega), (dec_num v).1]
    simp
  · subst h
    rw [itoa_zero]
    decide
  · obtain ⟨v, rfl⟩ : ∃ v : Nat, z = (v : Int) := ⟨z.natAbs, by omega⟩
    rw [Lib.itoa_nonneg]
    obtain ⟨h2, h1⟩ := dec_noneg v
    unfold formL readN
    rw [h1, h2, goodT_dec (by omega), (dec_num v).1]
    simp
theorem read_text {z : Int} (h : fits z = true) : readZ (Lib.itoa z) = z ∧ readE (Lib.itoa z) = 0 := by
  obtain ⟨h1, h2⟩ := itoa_form z
  unfold readZ readE
  rw [if_pos h1, if_pos h1, h2]
  unfold resZ errZ
  rw [if_pos ⟨rfl, h⟩, if_neg (by simp), if_pos h]
  exact ⟨rfl, rfl⟩
/-- a text of the form is that of its number -/
theorem form_text {s : List UInt8} (h : formL s = true) : Lib.itoa (readN s) = s := by
  unfold formL at h
  rw [Bool.or_eq_true, beq_iff_eq] at h
  rcases h with rfl | h
  · exact itoa_zero
  · cases s with
    | nil => exact absurd h (by decide)
    | cons b l =>
      by_cases hb : (b == 45) = true
      · have e1 : restL (b :: l) = l := by simp only [restL, hb, if_true]
        have e2 : negL (b :: l) = true := hb
        rw [e1] at h
        unfold readN
        rw [e2, if_pos rfl, e1]
        cases l with
        | nil => exact absurd h (by decide)
        | cons c l =>
          obtain ⟨h1, h2⟩ := goodT_cons.1 h
          have h3 := numF_pos h2 h1
          rw [Lib.itoa_neg _ (by omega), num_dec h2 h1, beq_iff_eq.1 hb]
      · have hb : (b == 45) = false := by simpa using hb
        have e1 : restL (b :: l) = b :: l := by simp only [restL, hb]; rfl
        have e2 : negL (b :: l) = false := hb
        rw [e1] at h
        obtain ⟨h1, h2⟩ := goodT_cons.1 h
        unfold readN
        rw [e2, if_neg (by simp), e1, Lib.itoa_nonneg, num_dec h2 h1]
theorem read_ok {s : List UInt8} (h : readE s = 0) : formL s = true ∧ fits (readN s) = true ∧ readZ s = readN s := by
  unfold readE at h
  split at h
  · rename_i h1
    refine ⟨h1, ?_⟩
    unfold errZ at h
    rw [if_neg (by simp)] at h
    split at h
    · rename_i h2
      refine ⟨h2, ?_⟩
      unfold readZ resZ
      rw [if_pos h1, if_pos ⟨rfl, h2⟩]
    · cases h
  · cases h
theorem text_read {s : List UInt8} (h : readE s = 0) : Lib.itoa (readZ s) = s := by
  obtain ⟨h1, h2, h3⟩ := read_ok h
  rw [h3, form_text h1]
theorem read_no {s : List UInt8} (h : readE s ≠ 0) : readZ s = 0 ∧ (readE s = 2 ∨ readE s = 6) := by
  unfold readE readZ errZ resZ at *
  rw [if_neg (show ¬ (true = false) by simp)] at *
  by_cases h1 : formL s = true
  · rw [if_pos h1] at *
    rw [if_pos h1]
    by_cases h2 : fits (readN s) = true
    · rw [if_pos h2] at h; exact absurd rfl h
    · rw [if_neg h2, if_neg (fun e => h2 e.2)]
      exact ⟨rfl, Or.inr rfl⟩
  · rw [if_neg h1, if_neg h1]
    exact ⟨rfl, Or.inl rfl⟩
theorem read_fits (s : List UInt8) : fits (readZ s) = true := by
  by_cases h : readE s = 0
  · obtain ⟨h1, h2, h3⟩ := read_ok h
    rw [h3]; exact h2
  · rw [(read_no h).1]
    exact fits_iff.2 (by have := pw_pos 60; simpa using this)
/-- one digit more -/
theorem itoa_more {z : Int} (h : z ≠ 0) {b : UInt8} (hb : isD b = true) : formL (Lib.itoa z ++ [b]) = true ∧ readN (Lib.itoa z ++ [b]) = 10 * z + sgI z * ((b.toNat : Int) - 48) := by
  have hb2 : 48 ≤ b.toNat := by
    unfold isD at hb
    simp only [Bool.and_eq_true, decide_eq_true_eq] at hb
    omega
  have key : ∀ v : Nat, v ≠ 0 → goodT (Lib.decDigits v ++ [b]) = true := by
    intro v hv
    obtain ⟨c, l, h1, h2⟩ := dec_head v hv
    rw [h1, List.cons_append, goodT_cons]
    refine ⟨h2, ?_⟩
    rw [← List.cons_append, ← h1, List.all_append, (dec_num v).2, List.all_cons, hb]
    rfl
  rcases Int.lt_or_gt_of_ne h with h | h
  · obtain ⟨v, rfl⟩ : ∃ v : Nat, z = -(v : Int) := ⟨z.natAbs, by omega⟩
    rw [Lib.itoa_neg v (by omega)]
    unfold formL readN sgI
    have h1 : restL (45 :: Lib.decDigits v ++ [b]) = Lib.decDigits v ++ [b] := rfl
    have h2 : negL (45 :: Lib.decDigits v ++ [b]) = true := rfl
    rw [h1, h2, key v (by omega), numF_snoc, (dec_num v).1, if_pos rfl, if_pos h]
    refine ⟨by simp, ?_⟩
    omega
  · obtain ⟨v, rfl⟩ : ∃ v : Nat, z = (v : Int) := ⟨z.natAbs, by omega⟩
    rw [Lib.itoa_nonneg]
    have h1 : negL (Lib.decDigits v ++ [b]) = false ∧ restL (Lib.decDigits v ++ [b]) = Lib.decDigits v ++ [b] := by
      obtain ⟨c, l, h1, h2⟩ := dec_head v (by omega)
      have h3 := dec_noneg v
      rw [h1] at h3 ⊢
      have h4 : (c == 45) = false := h3.1
      rw [List.cons_append]
      exact ⟨h4, by simp only [restL, h4]; rfl⟩
    unfold formL readN sgI
    rw [h1.1, h1.2, key v (by omega), numF_snoc, (dec_num v).1, if_neg (by simp), if_neg (by omega), if_neg (by omega)]
    refine ⟨by simp, ?_⟩
    omega
theorem itoa_inj {x y : Int} (h : Lib.itoa x = Lib.itoa y) : x = y := by
  rw [← (itoa_form x).2, h, (itoa_form y).2]
theorem itoa_ne (z : Int) : Lib.itoa z ≠ [] := by
  intro h
  have := (itoa_form z).1
  rw [h] at this
  exact absurd this (by decide)
end Go.Proofs.YtkeajohkpmabcaaGreatDoor
/- Plain law: the text of a number out of parts of five digits, the least one first. No condition. -/
namespace Go.Proofs.YtkeajohkpmabcaaGreatDoor
open Go.RowKit
set_option linter.unusedVariables false
set_option linter.unusedSimpArgs false

/-- the parts, from the last one on -/
def catS (ps : List ByteArray) : List UInt8 := (ps.reverse.map (·.data.toList)).flatten
theorem catS_snoc (ps : List ByteArray) (p : ByteArray) : catS (ps ++ [p]) = p.data.toList ++ catS ps := by
  unfold catS
  simp
/-- what stands between two rounds: V is the number, u what is left of it -/
def TextI (V u : Nat) (ps : List ByteArray) : Prop :=
  (u ≠ 0 → Lib.decDigits V = Lib.decDigits u ++ catS ps) ∧ (u = 0 → V ≠ 0 → Lib.decDigits V = catS ps) ∧ ps.length ≤ (catS ps).length
theorem TextI.start (V : Nat) : TextI V V [] := ⟨fun h => by simp [catS], fun h1 h2 => absurd h1 h2, Nat.le_refl _⟩
theorem dec_len (v k : Nat) (h : v < 10 ^ (k + 1)) : (Lib.decDigits v).length ≤ k + 1 := (fw_pad k v h).2
/-- the text of a part -/
def partL (u : Nat) : List UInt8 := if u / 100000 = 0 then Lib.itoa ((u : Int) % 100000) else List.replicate (5 - (Lib.itoa ((u : Int) % 100000)).length) 48 ++ Lib.itoa ((u : Int) % 100000)
theorem itoa_part (u : Nat) : Lib.itoa ((u : Int) % 100000) = Lib.decDigits (u % 100000) ∧ (Lib.itoa ((u : Int) % 100000)).length ≤ 5 ∧ 1 ≤ (Lib.itoa ((u : Int) % 100000)).length := by
  have e : ((u : Int) % 100000) = ((u % 100000 : Nat) : Int) := by omega
  rw [e, Lib.itoa_nonneg]
  refine ⟨rfl, dec_len _ 4 (by omega), ?_⟩
  have := dec_ne (u % 100000)
  cases h : Lib.decDigits (u % 100000) with
  | nil => exact absurd h this
  | cons b l => simp
theorem TextI.step {V u : Nat} {ps : List ByteArray} (h : TextI V u ps) (hu : u ≠ 0) {p : ByteArray} (hp : p.data.toList = partL u) : TextI V (u / 100000) (ps ++ [p]) := by
  obtain ⟨h1, h2, h3⟩ := h
  obtain ⟨e1, e2, e3⟩ := itoa_part u
  have hlen : 1 ≤ (partL u).length := by
    unfold partL
    split
    · exact e3
    · rw [List.length_append]; omega
  have hV := h1 hu
  refine ⟨fun h => ?_, fun h _ => ?_, ?_⟩
  · rw [catS_snoc, hp]
    unfold partL
    rw [if_neg h, hV, e1, (dec_five u h).1]
    simp only [List.append_assoc]
  · rw [catS_snoc, hp]
    unfold partL
    rw [if_pos h, hV, e1, Nat.mod_eq_of_lt (by omega)]
  · rw [catS_snoc, hp, List.length_append, List.length_append, List.length_singleton]
    omega
theorem TextI.few {V u : Nat} {ps : List ByteArray} (h : TextI V u ps) (hV : V ≠ 0) : ps.length ≤ (Lib.decDigits V).length := by
  obtain ⟨h1, h2, h3⟩ := h
  by_cases hu : u = 0
  · rw [h2 hu hV]; exact h3
  · rw [h1 hu, List.length_append]; omega
theorem big_dec : (2 : Nat) ^ 1200 < 10 ^ 362 := by decide +kernel
theorem dec_fits {z : Int} (h : fits z = true) : (Lib.decDigits z.natAbs).length ≤ 362 := by
  refine dec_len _ 361 ?_
  have h1 := fits_iff.1 h
  have h2 : pw 60 = ((2 ^ 1200 : Nat) : Int) := by decide +kernel
  rw [h2] at h1
  have := big_dec
  omega
/-- the join of the parts -/
theorem join_parts (ps : List ByteArray) : Lib.join (ps.reverse.map (·.data.toList)) [] = catS ps := by
  unfold catS
  cases h : ps.reverse.map (·.data.toList) with
  | nil => rfl
  | cons x r =>
    rw [Lib.join_cons, List.flatten_cons]
    unfold Lib.joinTail
    simp
end Go.Proofs.YtkeajohkpmabcaaGreatDoor
/- Plain law: reading a number: the prefix, the digits, the sum digit by digit. No condition. -/
namespace Go.Proofs.YtkeajohkpmabcaaGreatDoor
open Go.RowKit
set_option linter.unusedVariables false
set_option linter.unusedSimpArgs false

theorem cut_neg (l : List UInt8) : Lib.hasPrefix l [45] = negL l ∧ Lib.trimPrefix l [45] = restL l := by
  cases l with
  | nil => exact ⟨rfl, rfl⟩
  | cons b l =>
    have h1 : Lib.hasPrefix (b :: l) [45] = (b == 45) := by
      unfold Lib.hasPrefix
      have e : (45 == b) = (b == 45) := by rw [Bool.beq_comm]
      simp only [List.isPrefixOf, Bool.and_true]
      exact e
    refine ⟨h1, ?_⟩
    unfold Lib.trimPrefix
    rw [h1]
    unfold restL
    rfl
def ten : List UInt8 := [48, 49, 50, 51, 52, 53, 54, 55, 56, 57]
theorem ten_isD (b : UInt8) : ten.contains b = isD b := by
  have h : ∀ n : Fin 256, ten.contains (UInt8.ofNat n) = isD (UInt8.ofNat n) := by decide +kernel
  have := h ⟨b.toNat, b.toNat_lt⟩
  simpa using this
theorem drop_nil {p : UInt8 → Bool} : ∀ {l : List UInt8}, l.dropWhile p = [] ↔ l.all p = true
  | [] => by simp
  | b :: l => by
    rw [List.dropWhile_cons, List.all_cons]
    cases h : p b
    · simp
    · simp only [if_true, Bool.true_and]; exact drop_nil
theorem drop_head {p : UInt8 → Bool} : ∀ {l : List UInt8} {b : UInt8} {r : List UInt8}, l.dropWhile p = b :: r → p b = false
  | [], _, _, h => by simp at h
  | c :: l, b, r, h => by
    rw [List.dropWhile_cons] at h
    cases hc : p c
    · rw [hc] at h
      simp only [Bool.false_eq_true, if_false] at h
      injection h with h1 h2
      rw [← h1]; exact hc
    · rw [hc] at h
      simp only [if_true] at h
      exact drop_head h
theorem trim_ten (t : List UInt8) : Lib.trimS t ten = [] ↔ t.all isD = true := by
  unfold Lib.trimS Lib.trimLeftS Lib.trimRightS
  have e : (fun c => ten.contains c) = isD := funext ten_isD
  rw [e, drop_nil, List.all_reverse]
  constructor
  · intro h
    cases hd : t.reverse.dropWhile isD with
    | nil => rw [drop_nil, List.all_reverse] at hd; exact hd
    | cons b r =>
      rw [hd, List.all_cons, drop_head hd] at h
      cases h
  · intro h
    have : t.reverse.dropWhile isD = [] := drop_nil.2 (by rw [List.all_reverse]; exact h)
    rw [this]; rfl
theorem form_good {l : List UInt8} (h : l ≠ [48]) : formL l = goodT (restL l) := by
  unfold formL
  rw [beq_eq_false_iff_ne.2 h, Bool.false_or]
theorem bad_read {l : List UInt8} (h : formL l = false) : readZ l = 0 ∧ readE l = 2 := by
  unfold readZ readE
  rw [h]
  exact ⟨rfl, rfl⟩
theorem zero_read : readZ [48] = 0 ∧ readE [48] = 0 := by
  have := read_text (z := 0) (fits_iff.2 (by have := pw_pos 60; simpa using this))
  rw [itoa_zero] at this
  exact this
theorem good_read {l : List UInt8} (h : formL l = true) : (∀ s : Int, s = (if negL l = true then -1 else 1) → fits (s * (numF (restL l) : Int)) = true → readZ l = s * (numF (restL l) : Int) ∧ readE l = 0) ∧ ((∃ k, 60 < (digs (numF ((restL l).take k))).length) → readZ l = 0 ∧ readE l = 6) := by
  have hN : ∀ s : Int, s = (if negL l = true then -1 else 1) → readN l = s * (numF (restL l) : Int) := by
    intro s hs
    unfold readN
    split
    · rename_i h1; rw [if_pos h1] at hs; subst hs; omega
    · rename_i h1; rw [if_neg h1] at hs; subst hs; omega
  constructor
  · intro s hs hf
    unfold readZ readE
    rw [if_pos h, if_pos h, hN s hs]
    unfold resZ errZ
    rw [if_pos ⟨rfl, hf⟩, if_neg (by simp), if_pos hf]
    exact ⟨rfl, rfl⟩
  · rintro ⟨k, hk⟩
    have hnf : fits (readN l) = false := by
      cases hf : fits (readN l)
      · rfl
      · have h1 := fits_iff.1 hf
        have h2 : (readN l).natAbs = numF (restL l) := by unfold readN; split <;> omega
        rw [h2] at h1
        have h3 := numF_mono (restL l) k
        have h4 := (digs_len (n := numF ((restL l).take k)) (k := 60)).2 (by omega)
        omega
    unfold readZ readE
    rw [if_pos h, if_pos h]
    unfold resZ errZ
    rw [if_neg (by rw [hnf]; simp), if_neg (by simp), if_neg (by rw [hnf]; simp)]
    exact ⟨rfl, rfl⟩
theorem num_step {t : List UInt8} {k : Nat} {b : UInt8} (h : t[k]? = some b) : numF (t.take (k + 1)) = 10 * numF (t.take k) + (b.toNat - 48) := by
  rw [List.take_add_one, h, Option.toList_some, numF_snoc]
theorem digs_one {d : Nat} (h : d < 10) : trimL [(d : Int)] = digs d := by
  rw [trimL_digs (fun x hx => by rw [List.mem_singleton.1 hx]; omega)]
  congr 1
end Go.Proofs.YtkeajohkpmabcaaGreatDoor
