/- Laws of what is read, byte by byte. No condition. -/
import Derived.Test.YtkeajohkpmabcaaGreatDoorM
namespace Go.Proofs.YtkeajohkpmabcaaGreatDoor
open Go.RowKit
set_option linter.unusedVariables false
set_option linter.unusedSimpArgs false

theorem form_bad {l : List UInt8} (h1 : l ≠ [48]) (h2 : goodT (restL l) = false) : formL l = false := by
  rw [form_good h1]; exact h2
theorem read_nil {l : List UInt8} (h : restL l = []) : readZ l = 0 ∧ readE l = 2 :=
  bad_read (form_bad (fun e => by subst e; cases h) (by rw [h]; rfl))
theorem read_zero {l t : List UInt8} (h : restL l = 48 :: t) (h1 : l ≠ [48]) : readZ l = 0 ∧ readE l = 2 :=
  bad_read (form_bad h1 (by
    rw [h]
    cases hg : goodT (48 :: t) with
    | false => rfl
    | true => exact absurd rfl (goodT_cons.1 hg).1))
theorem read_nodig {l : List UInt8} {k : Nat} {c : UInt8} (h : (restL l)[k]? = some c) (hc : isD c = false) : readZ l = 0 ∧ readE l = 2 := by
  refine bad_read (form_bad (fun e => ?_) ?_)
  · subst e
    have h' : ([48] : List UInt8)[k]? = some c := h
    cases k with
    | zero => simp at h'; subst h'; exact absurd hc (by decide)
    | succ k => simp at h'
  · cases hg : goodT (restL l) with
    | false => rfl
    | true =>
      cases ht : restL l with
      | nil => rw [ht] at h; simp at h
      | cons b t =>
        rw [ht] at hg h
        have := List.all_eq_true.1 (goodT_cons.1 hg).2 c (List.mem_of_getElem? h)
        rw [hc] at this; cases this
theorem form_all {l : List UInt8} (h0 : restL l ≠ []) (h1 : ∀ t, restL l = 48 :: t → l = [48]) (h2 : ∀ (k : Nat) c, (restL l)[k]? = some c → isD c = true) : formL l = true := by
  by_cases e : l = [48]
  · subst e; rfl
  rw [form_good e]
  cases ht : restL l with
  | nil => exact absurd ht h0
  | cons b t =>
    refine goodT_cons.2 ⟨fun e2 => ?_, ?_⟩
    · subst e2; exact e (h1 t ht)
    · refine List.all_eq_true.2 fun c hc => ?_
      obtain ⟨k, hk⟩ := List.getElem?_of_mem hc
      exact h2 k c (by rw [ht]; exact hk)
/-- a part of a text, as a list -/
theorem ext_list (s : ByteArray) (i j : Nat) : (s.extract i j).data.toList = (s.data.toList.drop i).take (j - i) := by
  rw [ByteArray.data_extract, Array.toList_extract, List.extract_eq_take_drop]
theorem ext_to (s : ByteArray) (k : Nat) : (s.extract 0 k).data.toList = s.data.toList.take k := by rw [ext_list]; simp
theorem ext_from (s : ByteArray) (k : Nat) : (s.extract k s.size).data.toList = s.data.toList.drop k := by
  rw [ext_list]
  exact List.take_of_length_le (by rw [List.length_drop, Lib.size_eq]; omega)
end Go.Proofs.YtkeajohkpmabcaaGreatDoor
