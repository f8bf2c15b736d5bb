/- Walk over slices.Clone of ints. Conditions stand in the theorem. -/
import Derived.Test.YtmcamadcoglodaaFx
import Derived.Lib.LazyBuf
namespace Go.Proofs.Ytmcamadcoglodaa
open Go.RowKit
set_option linter.unusedVariables false

theorem clone_any (A : Option Addr) (n cap : Nat) (l : List Int) (w : World) (hl : RdI w w.heap.size A n cap l) (hn : 0 < n) (hn2 : n ≤ 1000) :
  Calls Try.prog 29 #[.slice A n cap] w fun e w' => ∃ g c, e = .returned (.slice (some ⟨g, 0, none⟩) n c) ∧ Own 1 iEnc w' w.heap.size 3 (.slice (some ⟨g, 0, none⟩) n c) l ∧ Below w.heap.size w w' := by
  obtain ⟨i0, hi0, hz0, hz1, hz2⟩ := info_parts int_info
  have hcaps := hl.caps
  have hlen := hl.len
  obtain ⟨b, off, x, rfl, hb, hx, -⟩ := hl.atI hn
  have ho0 : Own 1 iEnc (w.alloc (.cells #[] 3)) w.heap.size 3 (.slice (some ⟨w.heap.size, 0, none⟩) 0 0) ([] : List Int) := Own.lit iSized (Nat.le_refl _) [] #[] rfl rfl (by omega)
  have hb0 := (Below.refl w.heap.size w).alloc (Nat.le_refl _) (.cells #[] 3)
  have Hlen := Lib.hid hlen
  have hnil := fun w a l c => run_eql_slice_nil (P := Try.prog) w 23 3 a l c Try.underlying23
  clear hlen hx
  go_enter Try.func29, Try.ntmps29
  go_wp2_with (at_builtin
               refine wpList_app _ iSized rfl _ _ 23 rfl w.heap.size 3 i0 _ 8 Try.underlying23 hi0 hz0 hz1 hz2 rfl _ [] rfl ho0 _ _ n cap l rfl (hl.up (flat_lasts _) hb0) (by simp only [maxLen, List.length_nil]; omega) (by simp only [List.length_nil]; omega) (by simp) ?_
               intro v4 w4 ho4 hg4 hx4
               have hb4 : Below w.heap.size w w4 := Own.grow ho0 (Nat.le_refl _) hb0 (by simp) hg4)
  go_ret
  rw [List.nil_append] at ho4
  obtain ⟨g, c, rfl, -⟩ := ho4.form (by rw [Hlen.out]; exact hn)
  rw [Hlen.out] at ho4 ⊢
  exact ⟨g, c, rfl, ho4, hb4⟩
end Go.Proofs.Ytmcamadcoglodaa
