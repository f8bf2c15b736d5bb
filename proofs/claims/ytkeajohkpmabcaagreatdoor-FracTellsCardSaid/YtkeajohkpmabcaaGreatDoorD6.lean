/- Where a text is cut. No condition. -/
import Derived.Test.YtkeajohkpmabcaaGreatDoorT
import Derived.Test.YtkeajohkpmabcaaGreatDoorD7
namespace Go.Proofs.YtkeajohkpmabcaaGreatDoor
open Go.RowKit
set_option linter.unusedVariables false
set_option linter.unusedSimpArgs false

/-- a text without a stroke is no fraction's -/
theorem ReadO.noslash {L : List UInt8} (h : ∀ (j : Nat), L[j]? ≠ some 47) : ReadO L none := ReadO.no fun q _ h2 => by
  have hm : (47 : UInt8) ∈ L := by rw [← h2]; unfold textQ; simp
  obtain ⟨j, hj⟩ := List.getElem?_of_mem hm
  exact h j hj
/-- where a text is cut: at its first stroke -/
theorem cut_at {L : List UInt8} {k : Nat} (h : ∀ (j : Nat), j < k → L[j]? ≠ some 47) (hk : L[k]? = some 47) : Lib.cut L [47] = (L.take k, L.drop (k + 1), true) := by
  obtain ⟨hl, he⟩ := List.getElem?_eq_some_iff.1 hk
  have e1 : L = L.take k ++ 47 :: L.drop (k + 1) := by
    rw [← he, List.getElem_cons_drop, List.take_append_drop]
  have hi := index_slash (L.take k) (L.drop (k + 1)) (fun b hb e => by
    subst e
    obtain ⟨j, hj⟩ := List.getElem?_of_mem hb
    have hjk : j < k := by
      have := (List.getElem?_eq_some_iff.1 hj).1
      rw [List.length_take] at this; omega
    rw [List.getElem?_take_of_lt hjk] at hj
    exact h j hjk hj)
  rw [← e1, List.length_take, Nat.min_eq_left (by omega)] at hi
  unfold Lib.cut
  rw [hi, if_pos (by omega)]
  simp
end Go.Proofs.YtkeajohkpmabcaaGreatDoor
