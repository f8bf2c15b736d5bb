/- Plain law: reading a number: the prefix, the digits, the sum digit by digit. No condition. -/
import Derived.Test.YtkeajohkpmabcaaDoorD3
import Derived.Lib.SlTrimSet
import Derived.Lib.Strings
namespace Go.Proofs.YtkeajohkpmabcaaDoor
open Go.RowKit
set_option linter.unusedVariables false

theorem cut_neg (l : List UInt8) : Lib.hasPrefix l [45] = negL l ∧ Lib.trimPrefix l [45] = restL l := by
  cases l with
  | nil => exact ⟨rfl, rfl⟩
  | cons b l =>
    have h1 : Lib.hasPrefix (b :: l) [45] = (b == 45) := by
      unfold Lib.hasPrefix
      have e : (45 == b) = (b == 45) := by rw [Bool.beq_comm]
      simp only [List.isPrefixOf, Bool.and_true]
      exact e
    refine ⟨h1, ?_⟩
    unfold Lib.trimPrefix
    rw [h1]
    unfold restL
    rfl
def ten : List UInt8 := [48, 49, 50, 51, 52, 53, 54, 55, 56, 57]
theorem ten_isD (b : UInt8) : ten.contains b = isD b := by
  have h : ∀ n : Fin 256, ten.contains (UInt8.ofNat n) = isD (UInt8.ofNat n) := by decide +kernel
  have := h ⟨b.toNat, b.toNat_lt⟩
  simpa using this
theorem drop_nil {p : UInt8 → Bool} : ∀ {l : List UInt8}, l.dropWhile p = [] ↔ l.all p = true
  | [] => by simp
  | b :: l => by
    rw [List.dropWhile_cons, List.all_cons]
    cases h : p b
    · simp
    · simp only [if_true, Bool.true_and]; exact drop_nil
theorem drop_head {p : UInt8 → Bool} : ∀ {l : List UInt8} {b : UInt8} {r : List UInt8}, l.dropWhile p = b :: r → p b = false
  | [], _, _, h => by simp at h
  | c :: l, b, r, h => by
    rw [List.dropWhile_cons] at h
    cases hc : p c
    · rw [hc] at h
      simp only [Bool.false_eq_true, if_false] at h
      injection h with h1 h2
      rw [← h1]; exact hc
    · rw [hc] at h
      simp only [if_true] at h
      exact drop_head h
theorem trim_ten (t : List UInt8) : Lib.trimS t ten = [] ↔ t.all isD = true := by
  unfold Lib.trimS Lib.trimLeftS Lib.trimRightS
  have e : (fun c => ten.contains c) = isD := funext ten_isD
  rw [e, drop_nil, List.all_reverse]
  constructor
  · intro h
    cases hd : t.reverse.dropWhile isD with
    | nil => rw [drop_nil, List.all_reverse] at hd; exact hd
    | cons b r =>
      rw [hd, List.all_cons, drop_head hd] at h
      cases h
  · intro h
    have : t.reverse.dropWhile isD = [] := drop_nil.2 (by rw [List.all_reverse]; exact h)
    rw [this]; rfl
theorem form_good {l : List UInt8} (h : l ≠ [48]) : formL l = goodT (restL l) := by
  unfold formL
  rw [beq_eq_false_iff_ne.2 h, Bool.false_or]
theorem bad_read {l : List UInt8} (h : formL l = false) : readZ l = 0 ∧ readE l = 2 := by
  unfold readZ readE
  rw [h]
  exact ⟨rfl, rfl⟩
theorem zero_read : readZ [48] = 0 ∧ readE [48] = 0 := by
  have := read_text (z := 0) (fits_iff.2 (by have := pw_pos 60; simpa using this))
  rw [itoa_zero] at this
  exact this
theorem good_read {l : List UInt8} (h : formL l = true) : (∀ s : Int, s = (if negL l = true then -1 else 1) → fits (s * (numF (restL l) : Int)) = true → readZ l = s * (numF (restL l) : Int) ∧ readE l = 0) ∧ ((∃ k, 60 < (digs (numF ((restL l).take k))).length) → readZ l = 0 ∧ readE l = 6) := by
  have hN : ∀ s : Int, s = (if negL l = true then -1 else 1) → readN l = s * (numF (restL l) : Int) := by
    intro s hs
    unfold readN
    split
    · rename_i h1; rw [if_pos h1] at hs; subst hs; omega
    · rename_i h1; rw [if_neg h1] at hs; subst hs; omega
  constructor
  · intro s hs hf
    unfold readZ readE
    rw [if_pos h, if_pos h, hN s hs]
    unfold resZ errZ
    rw [if_pos ⟨rfl, hf⟩, if_neg (by simp), if_pos hf]
    exact ⟨rfl, rfl⟩
  · rintro ⟨k, hk⟩
    have hnf : fits (readN l) = false := by
      cases hf : fits (readN l)
      · rfl
      · have h1 := fits_iff.1 hf
        have h2 : (readN l).natAbs = numF (restL l) := by unfold readN; split <;> omega
        rw [h2] at h1
        have h3 := numF_mono (restL l) k
        have h4 := (digs_len (n := numF ((restL l).take k)) (k := 60)).2 (by omega)
        omega
    unfold readZ readE
    rw [if_pos h, if_pos h]
    unfold resZ errZ
    rw [if_neg (by rw [hnf]; simp), if_neg (by simp), if_neg (by rw [hnf]; simp)]
    exact ⟨rfl, rfl⟩
theorem num_step {t : List UInt8} {k : Nat} {b : UInt8} (h : t[k]? = some b) : numF (t.take (k + 1)) = 10 * numF (t.take k) + (b.toNat - 48) := by
  rw [List.take_add_one, h, Option.toList_some, numF_snoc]
theorem digs_one {d : Nat} (h : d < 10) : trimL [(d : Int)] = digs d := by
  rw [trimL_digs (fun x hx => by rw [List.mem_singleton.1 hx]; omega)]
  congr 1
end Go.Proofs.YtkeajohkpmabcaaDoor
