/- Arguments of the statements of layer 6, opened. No condition. -/
import Derived.Test.YtdlcglndhhndpaaOpc
import Derived.Test.YtdlcglndhhndpaaLRk
namespace Go.Proofs.Ytdlcglndhhndpaa
open Go.ChangeShapes Go.WideShapes Go.ChangeAt Go.RowKit Go.Deep
set_option linter.unusedVariables false

section
variable {H : Type} {enc : TypeId × Value → H} {w : World}
abbrev bgcE : Enc (Int × List Int) := prE 1 (flat fun x => [.int .i64 x]) (slE 1 (flat fun x => [.int .i64 x]))
abbrev fcE : Enc ((Int × List Int) × (Int × List Int)) := prE 2 bgcE bgcE
set_option maxRecDepth 100000 in
theorem op_rowc : Opens enc Try.prog w 45 5 (prE 1 (slE 4 fcE) fcE) (fun _ : List ((Int × List Int) × (Int × List Int)) × ((Int × List Int) × (Int × List Int)) => True) := by
  have h := opens_struct (enc := enc) (w := w) Try.underlying45 (sz := 5) (by kernel_rfl)
    (opens_fields (s := 1) (s' := 4) op_fracsc rfl (by kernel_rfl) (opens_field op_fracc rfl (by kernel_rfl)))
  intro fuel cs y h1 h2
  obtain ⟨a, x, b, _⟩ := h fuel cs y h1 h2
  exact ⟨a, x, b, trivial⟩
set_option maxRecDepth 100000 in
theorem op_rowsc : Opens enc Try.prog w 22 1 (slE 5 (prE 1 (slE 4 fcE) fcE)) (fun l => ∀ x ∈ l, True) :=
  opens_slice op_rowc Try.underlying22 (by kernel_rfl) (by omega) (by decide +kernel)
def fvT (x : (Int × List Int) × (Int × List Int)) : Fv := ⟨x.1.1, x.1.2, x.2.1, x.2.2⟩
theorem rv_cells {W : World} {B : Nat} (x : List ((Int × List Int) × (Int × List Int)) × ((Int × List Int) × (Int × List Int))) (cs : List Value) (hl : cs.length = 5) (h : prE 1 (slE 4 fcE) fcE W B x cs) : rE W B ⟨x.1.map fvT, fvT x.2⟩ cs := by
  obtain ⟨h1, h2⟩ := h
  obtain ⟨A, n, cap, e1, r1⟩ := h1
  have h3 := fv_cells x.2 (cs.drop 1) (by rw [List.length_drop, hl]) h2
  refine ⟨A, n, cap, cs.drop 1, ?_, r1.mapC _ fv_cells, h3⟩
  rw [← List.take_append_drop 1 cs, e1]
  rfl
variable {r : Reach} {b0 : Nat} {v : Value} {d : DataW H} {p : List MemPlace}
set_option maxRecDepth 100000 in
theorem arg_rows (hv : Value.okWide Try.prog w r b0 22 v) (hd : DataW.Trod enc Try.prog w 0 (fun _ => true) true 22 v d p) (hw : ∀ n ∈ d.weights Try.prog 22, n ≤ reachBytes) :
    ∃ A n cap l, v = .slice A n cap ∧ RdR w w.heap.size A n cap l := by
  obtain ⟨A, n, cap, l, rfl, hr, h⟩ := opens_arg_slice op_rowsc Try.underlying22 hv hd hw
  exact ⟨A, n, cap, _, rfl, hr.mapC _ rv_cells⟩
set_option maxRecDepth 100000 in
theorem arg_frc (hv : Value.okWide Try.prog w r b0 40 v) (hd : DataW.Trod enc Try.prog w 0 (fun _ => true) true 40 v d p) (hw : ∀ n ∈ d.weights Try.prog 40, n ≤ reachBytes) :
    ∃ s t A B n cap m cap' l k, v = .agg #[.int .i64 s, .slice A n cap, .int .i64 t, .slice B m cap'] ∧ RdI w w.heap.size A n cap l ∧ RdI w w.heap.size B m cap' k := by
  obtain ⟨cs, x, rfl, hr, _⟩ := opens_arg_struct op_fracc Try.underlying40 hv hd hw
  obtain ⟨h1, h2⟩ := hr
  obtain ⟨A, n, cap, e1, r1⟩ := bgc_cells h1
  obtain ⟨B, m, cap', e2, r2⟩ := bgc_cells h2
  refine ⟨x.1.1, x.2.1, A, B, n, cap, m, cap', x.1.2, x.2.2, ?_, r1, r2⟩
  have e : cs.toList = [.int .i64 x.1.1, .slice A n cap, .int .i64 x.2.1, .slice B m cap'] := by
    rw [← List.take_append_drop 2 cs.toList, e1, e2]
    rfl
  cases cs
  simp only at e
  subst e
  rfl
end
end Go.Proofs.Ytdlcglndhhndpaa
