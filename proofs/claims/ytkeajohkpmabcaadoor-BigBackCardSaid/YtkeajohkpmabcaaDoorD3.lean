/- Plain law: the text of a number out of parts of five digits, the least one first. No condition. -/
import Derived.Test.YtkeajohkpmabcaaDoorD2
import Derived.Lib.Join
namespace Go.Proofs.YtkeajohkpmabcaaDoor
open Go.RowKit
set_option linter.unusedVariables false

/-- the parts, from the last one on -/
def catS (ps : List ByteArray) : List UInt8 := (ps.reverse.map (·.data.toList)).flatten
theorem catS_snoc (ps : List ByteArray) (p : ByteArray) : catS (ps ++ [p]) = p.data.toList ++ catS ps := by
  unfold catS
  simp
/-- what stands between two rounds: V is the number, u what is left of it -/
def TextI (V u : Nat) (ps : List ByteArray) : Prop :=
  (u ≠ 0 → Lib.decDigits V = Lib.decDigits u ++ catS ps) ∧ (u = 0 → V ≠ 0 → Lib.decDigits V = catS ps) ∧ ps.length ≤ (catS ps).length
theorem TextI.start (V : Nat) : TextI V V [] := ⟨fun h => by simp [catS], fun h1 h2 => absurd h1 h2, Nat.le_refl _⟩
theorem dec_len (v k : Nat) (h : v < 10 ^ (k + 1)) : (Lib.decDigits v).length ≤ k + 1 := (fw_pad k v h).2
/-- the text of a part -/
def partL (u : Nat) : List UInt8 := if u / 100000 = 0 then Lib.itoa ((u : Int) % 100000) else List.replicate (5 - (Lib.itoa ((u : Int) % 100000)).length) 48 ++ Lib.itoa ((u : Int) % 100000)
theorem itoa_part (u : Nat) : Lib.itoa ((u : Int) % 100000) = Lib.decDigits (u % 100000) ∧ (Lib.itoa ((u : Int) % 100000)).length ≤ 5 ∧ 1 ≤ (Lib.itoa ((u : Int) % 100000)).length := by
  have e : ((u : Int) % 100000) = ((u % 100000 : Nat) : Int) := by omega
  rw [e, Lib.itoa_nonneg]
  refine ⟨rfl, dec_len _ 4 (by omega), ?_⟩
  have := dec_ne (u % 100000)
  cases h : Lib.decDigits (u % 100000) with
  | nil => exact absurd h this
  | cons b l => simp
theorem TextI.step {V u : Nat} {ps : List ByteArray} (h : TextI V u ps) (hu : u ≠ 0) {p : ByteArray} (hp : p.data.toList = partL u) : TextI V (u / 100000) (ps ++ [p]) := by
  obtain ⟨h1, h2, h3⟩ := h
  obtain ⟨e1, e2, e3⟩ := itoa_part u
  have hlen : 1 ≤ (partL u).length := by
    unfold partL
    split
    · exact e3
    · rw [List.length_append]; omega
  have hV := h1 hu
  refine ⟨fun h => ?_, fun h _ => ?_, ?_⟩
  · rw [catS_snoc, hp]
    unfold partL
    rw [if_neg h, hV, e1, (dec_five u h).1]
    simp only [List.append_assoc]
  · rw [catS_snoc, hp]
    unfold partL
    rw [if_pos h, hV, e1, Nat.mod_eq_of_lt (by omega)]
  · rw [catS_snoc, hp, List.length_append, List.length_append, List.length_singleton]
    omega
theorem TextI.few {V u : Nat} {ps : List ByteArray} (h : TextI V u ps) (hV : V ≠ 0) : ps.length ≤ (Lib.decDigits V).length := by
  obtain ⟨h1, h2, h3⟩ := h
  by_cases hu : u = 0
  · rw [h2 hu hV]; exact h3
  · rw [h1 hu, List.length_append]; omega
theorem big_dec : (2 : Nat) ^ 1200 < 10 ^ 362 := by decide +kernel
theorem dec_fits {z : Int} (h : fits z = true) : (Lib.decDigits z.natAbs).length ≤ 362 := by
  refine dec_len _ 361 ?_
  have h1 := fits_iff.1 h
  have h2 : pw 60 = ((2 ^ 1200 : Nat) : Int) := by decide +kernel
  rw [h2] at h1
  have := big_dec
  omega
/-- the join of the parts -/
theorem join_parts (ps : List ByteArray) : Lib.join (ps.reverse.map (·.data.toList)) [] = catS ps := by
  unfold catS
  cases h : ps.reverse.map (·.data.toList) with
  | nil => rfl
  | cons x r =>
    rw [Lib.join_cons, List.flatten_cons]
    unfold Lib.joinTail
    simp
end Go.Proofs.YtkeajohkpmabcaaDoor
