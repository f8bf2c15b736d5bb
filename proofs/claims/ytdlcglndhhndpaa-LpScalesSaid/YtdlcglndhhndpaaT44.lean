/- Laws and walks laid together; the conditions stand in each theorem. -/
import Derived.Test.YtdlcglndhhndpaaT43
set_option linter.unusedVariables false
namespace Go.Proofs.Ytdlcglndhhndpaa
open Go.ChangeShapes Go.WideShapes Go.ChangeAt Go.RowKit Go.Deep
section
variable {H : Type} {enc : TypeId × Value → H} {w : World}
set_option maxRecDepth 100000 in
theorem op_progc : Opens enc Try.prog w 58 2 (prE 1 (slE 4 fcE) (slE 5 (prE 1 (slE 4 fcE) fcE))) (fun _ : List ((Int × List Int) × (Int × List Int)) × List (List ((Int × List Int) × (Int × List Int)) × ((Int × List Int) × (Int × List Int))) => True) := by
  have h := opens_struct (enc := enc) (w := w) Try.underlying58 (sz := 2) (by kernel_rfl)
    (opens_fields (s := 1) (s' := 1) op_fracsc rfl (by kernel_rfl) (opens_field op_rowsc rfl (by kernel_rfl)))
  exact ZQ54
variable {r : Reach} {b0 : Nat} {v : Value} {d : DataW H} {p : List MemPlace}
set_option maxRecDepth 100000 in
theorem arg_prog (hv : Value.okWide Try.prog w r b0 58 v) (hd : DataW.Trod enc Try.prog w 0 (fun _ => true) true 58 v d p) (hw : ∀ n ∈ d.weights Try.prog 58, n ≤ reachBytes) :
    ∃ A n cap l A' m cap' ls, v = .agg #[.slice A n cap, .slice A' m cap'] ∧ RdF w w.heap.size A n cap l ∧ RdR w w.heap.size A' m cap' ls := by
  obtain ⟨cs, x, rfl, hr, _⟩ := opens_arg_struct op_progc Try.underlying58 hv hd hw
  obtain ⟨h1, h2⟩ := hr
  obtain ⟨A, n, cap, e1, r1⟩ := h1
  obtain ⟨A', m, cap', e2, r2⟩ := h2
  refine ⟨A, n, cap, _, A', m, cap', _, ?_, r1.mapC _ fv_cells, r2.mapC _ rv_cells⟩
  have e : cs.toList = [.slice A n cap, .slice A' m cap'] := by
    rw [← List.take_append_drop 1 cs.toList, e1, e2]
    rfl
  cases cs
  simp only at e
  subst e
  rfl
end
end Go.Proofs.Ytdlcglndhhndpaa
