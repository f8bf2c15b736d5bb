/- Plain law: the text of a big integer, and the big integer of a text. No condition. -/
import Derived.Test.YtkeajohkpmabcaaDoorD1
import Derived.Test.YtkeajohkpmabcaaDoorV1
import Derived.Lib.ItoaMem
namespace Go.Proofs.YtkeajohkpmabcaaDoor
open Go.RowKit
set_option linter.unusedVariables false

/-- does it begin with a minus -/
def negL (s : List UInt8) : Bool := match s with | [] => false | b :: _ => b == 45
def restL (s : List UInt8) : List UInt8 := match s with | [] => [] | b :: l => if b == 45 then l else s
/-- digits that do not begin with a zero -/
def goodT (t : List UInt8) : Bool := match t with | [] => false | b :: l => b != 48 && (b :: l).all isD
def formL (s : List UInt8) : Bool := s == [48] || goodT (restL s)
def readN (s : List UInt8) : Int := if negL s = true then -(numF (restL s) : Int) else (numF (restL s) : Int)
def readZ (s : List UInt8) : Int := if formL s = true then resZ true (readN s) else 0
def readE (s : List UInt8) : Int := if formL s = true then errZ true (readN s) else 2
theorem goodT_cons {b : UInt8} {l : List UInt8} : goodT (b :: l) = true ↔ b ≠ 48 ∧ (b :: l).all isD = true := by
  unfold goodT
  rw [Bool.and_eq_true, bne_iff_ne]
theorem goodT_dec {v : Nat} (h : v ≠ 0) : goodT (Lib.decDigits v) = true := by
  obtain ⟨b, l, h1, h2⟩ := dec_head v h
  rw [h1, goodT_cons, ← h1]
  exact ⟨h2, (dec_num v).2⟩
theorem dec_noneg (v : Nat) : negL (Lib.decDigits v) = false ∧ restL (Lib.decDigits v) = Lib.decDigits v := by
  have h := (dec_num v).2
  cases hd : Lib.decDigits v with
  | nil => exact ⟨rfl, rfl⟩
  | cons b l =>
    rw [hd, List.all_cons, Bool.and_eq_true] at h
    have hb : (b == 45) = false := by
      rw [beq_eq_false_iff_ne]
      rintro rfl
      simp [isD] at h
    simp only [negL, restL, hb]
    exact ⟨trivial, rfl⟩
theorem itoa_zero : Lib.itoa 0 = [48] := by
  have := Lib.itoa_nonneg 0
  rw [dec_small (by omega)] at this
  exact this
theorem itoa_form (z : Int) : formL (Lib.itoa z) = true ∧ readN (Lib.itoa z) = z := by
  rcases Int.lt_trichotomy z 0 with h | h | h
  · obtain ⟨v, rfl⟩ : ∃ v : Nat, z = -(v : Int) := ⟨z.natAbs, by omega⟩
    rw [Lib.itoa_neg v (by omega)]
    unfold formL readN
    have h1 : restL (45 :: Lib.decDigits v) = Lib.decDigits v := rfl
    have h2 : negL (45 :: Lib.decDigits v) = true := rfl
    rw [h1, h2, goodT_dec (by omega), (dec_num v).1]
    simp
  · subst h
    rw [itoa_zero]
    decide
  · obtain ⟨v, rfl⟩ : ∃ v : Nat, z = (v : Int) := ⟨z.natAbs, by omega⟩
    rw [Lib.itoa_nonneg]
    obtain ⟨h2, h1⟩ := dec_noneg v
    unfold formL readN
    rw [h1, h2, goodT_dec (by omega), (dec_num v).1]
    simp
theorem read_text {z : Int} (h : fits z = true) : readZ (Lib.itoa z) = z ∧ readE (Lib.itoa z) = 0 := by
  obtain ⟨h1, h2⟩ := itoa_form z
  unfold readZ readE
  rw [if_pos h1, if_pos h1, h2]
  unfold resZ errZ
  rw [if_pos ⟨rfl, h⟩, if_neg (by simp), if_pos h]
  exact ⟨rfl, rfl⟩
/-- a text of the form is that of its number -/
theorem form_text {s : List UInt8} (h : formL s = true) : Lib.itoa (readN s) = s := by
  unfold formL at h
  rw [Bool.or_eq_true, beq_iff_eq] at h
  rcases h with rfl | h
  · exact itoa_zero
  · cases s with
    | nil => exact absurd h (by decide)
    | cons b l =>
      by_cases hb : (b == 45) = true
      · have e1 : restL (b :: l) = l := by simp only [restL, hb, if_true]
        have e2 : negL (b :: l) = true := hb
        rw [e1] at h
        unfold readN
        rw [e2, if_pos rfl, e1]
        cases l with
        | nil => exact absurd h (by decide)
        | cons c l =>
          obtain ⟨h1, h2⟩ := goodT_cons.1 h
          have h3 := numF_pos h2 h1
          rw [Lib.itoa_neg _ (by omega), num_dec h2 h1, beq_iff_eq.1 hb]
      · have hb : (b == 45) = false := by simpa using hb
        have e1 : restL (b :: l) = b :: l := by simp only [restL, hb]; rfl
        have e2 : negL (b :: l) = false := hb
        rw [e1] at h
        obtain ⟨h1, h2⟩ := goodT_cons.1 h
        unfold readN
        rw [e2, if_neg (by simp), e1, Lib.itoa_nonneg, num_dec h2 h1]
theorem read_ok {s : List UInt8} (h : readE s = 0) : formL s = true ∧ fits (readN s) = true ∧ readZ s = readN s := by
  unfold readE at h
  split at h
  · rename_i h1
    refine ⟨h1, ?_⟩
    unfold errZ at h
    rw [if_neg (by simp)] at h
    split at h
    · rename_i h2
      refine ⟨h2, ?_⟩
      unfold readZ resZ
      rw [if_pos h1, if_pos ⟨rfl, h2⟩]
    · cases h
  · cases h
theorem text_read {s : List UInt8} (h : readE s = 0) : Lib.itoa (readZ s) = s := by
  obtain ⟨h1, h2, h3⟩ := read_ok h
  rw [h3, form_text h1]
theorem read_no {s : List UInt8} (h : readE s ≠ 0) : readZ s = 0 ∧ (readE s = 2 ∨ readE s = 6) := by
  unfold readE readZ errZ resZ at *
  rw [if_neg (show ¬ (true = false) by simp)] at *
  by_cases h1 : formL s = true
  · rw [if_pos h1] at *
    rw [if_pos h1]
    by_cases h2 : fits (readN s) = true
    · rw [if_pos h2] at h; exact absurd rfl h
    · rw [if_neg h2, if_neg (fun e => h2 e.2)]
      exact ⟨rfl, Or.inr rfl⟩
  · rw [if_neg h1, if_neg h1]
    exact ⟨rfl, Or.inl rfl⟩
theorem read_fits (s : List UInt8) : fits (readZ s) = true := by
  by_cases h : readE s = 0
  · obtain ⟨h1, h2, h3⟩ := read_ok h
    rw [h3]; exact h2
  · rw [(read_no h).1]
    exact fits_iff.2 (by have := pw_pos 60; simpa using this)
/-- one digit more -/
theorem itoa_more {z : Int} (h : z ≠ 0) {b : UInt8} (hb : isD b = true) : formL (Lib.itoa z ++ [b]) = true ∧ readN (Lib.itoa z ++ [b]) = 10 * z + sgI z * ((b.toNat : Int) - 48) := by
  have hb2 : 48 ≤ b.toNat := by
    unfold isD at hb
    simp only [Bool.and_eq_true, decide_eq_true_eq] at hb
    omega
  have key : ∀ v : Nat, v ≠ 0 → goodT (Lib.decDigits v ++ [b]) = true := by
    intro v hv
    obtain ⟨c, l, h1, h2⟩ := dec_head v hv
    rw [h1, List.cons_append, goodT_cons]
    refine ⟨h2, ?_⟩
    rw [← List.cons_append, ← h1, List.all_append, (dec_num v).2, List.all_cons, hb]
    rfl
  rcases Int.lt_or_gt_of_ne h with h | h
  · obtain ⟨v, rfl⟩ : ∃ v : Nat, z = -(v : Int) := ⟨z.natAbs, by omega⟩
    rw [Lib.itoa_neg v (by omega)]
    unfold formL readN sgI
    have h1 : restL (45 :: Lib.decDigits v ++ [b]) = Lib.decDigits v ++ [b] := rfl
    have h2 : negL (45 :: Lib.decDigits v ++ [b]) = true := rfl
    rw [h1, h2, key v (by omega), numF_snoc, (dec_num v).1, if_pos rfl, if_pos h]
    refine ⟨by simp, ?_⟩
    omega
  · obtain ⟨v, rfl⟩ : ∃ v : Nat, z = (v : Int) := ⟨z.natAbs, by omega⟩
    rw [Lib.itoa_nonneg]
    have h1 : negL (Lib.decDigits v ++ [b]) = false ∧ restL (Lib.decDigits v ++ [b]) = Lib.decDigits v ++ [b] := by
      obtain ⟨c, l, h1, h2⟩ := dec_head v (by omega)
      have h3 := dec_noneg v
      rw [h1] at h3 ⊢
      have h4 : (c == 45) = false := h3.1
      rw [List.cons_append]
      exact ⟨h4, by simp only [restL, h4]; rfl⟩
    unfold formL readN sgI
    rw [h1.1, h1.2, key v (by omega), numF_snoc, (dec_num v).1, if_neg (by simp), if_neg (by omega), if_neg (by omega)]
    refine ⟨by simp, ?_⟩
    omega
theorem itoa_inj {x y : Int} (h : Lib.itoa x = Lib.itoa y) : x = y := by
  rw [← (itoa_form x).2, h, (itoa_form y).2]
theorem itoa_ne (z : Int) : Lib.itoa z ≠ [] := by
  intro h
  have := (itoa_form z).1
  rw [h] at this
  exact absurd this (by decide)
end Go.Proofs.YtkeajohkpmabcaaDoor
