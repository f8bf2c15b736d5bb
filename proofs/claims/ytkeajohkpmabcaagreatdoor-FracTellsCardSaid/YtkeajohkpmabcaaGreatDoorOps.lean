/- Arguments of the statements of layer 4, opened; the table that a row lists. No condition. -/
import Derived.Test.YtkeajohkpmabcaaGreatDoorRows
import Derived.Test.YtkeajohkpmabcaaGreatDoorO
import Derived.Lay
import Derived.Lib.LaidTab
import Derived.Lib.LaidU8
import Derived.ShutString
import Derived.MakeChecks
namespace Go.Proofs.YtkeajohkpmabcaaGreatDoor
open Go.ChangeShapes Go.WideShapes Go.ChangeAt Go.RowKit Go.Deep
set_option linter.unusedVariables false

section
variable {H : Type} {enc : TypeId × Value → H} {w : World}
set_option maxRecDepth 100000 in
theorem op_big : Opens enc Tryz.prog w 24 2 (prE 1 (flat fun x => [.int .i64 x]) (slE 1 (flat fun x => [.int .i64 x]))) (fun _ : Int × List Int => True) := by
  have h := opens_struct (enc := enc) (w := w) Tryz.underlying24 (sz := 2) (by kernel_rfl)
    (opens_fields (s := 1) (s' := 1) (opens_int Tryz.underlying3) rfl (by kernel_rfl) (opens_field (opens_slice (opens_int Tryz.underlying3) Tryz.underlying22 (by kernel_rfl) (by omega) (by decide +kernel)) rfl (by kernel_rfl)))
  intro fuel cs y h1 h2
  obtain ⟨a, x, b, _⟩ := h fuel cs y h1 h2
  exact ⟨a, x, b, trivial⟩
variable {r : Reach} {b0 : Nat} {v : Value} {d : DataW H} {p : List MemPlace}
set_option maxRecDepth 100000 in
theorem arg_big (hv : Value.okWide Tryz.prog w r b0 24 v) (hd : DataW.Trod enc Tryz.prog w 0 (fun _ => true) true 24 v d p) (hw : ∀ n ∈ d.weights Tryz.prog 24, n ≤ reachBytes) :
    ∃ s A n cap l, v = .agg #[.int .i64 s, .slice A n cap] ∧ RdI w w.heap.size A n cap l := by
  obtain ⟨cs, x, rfl, hr, _⟩ := opens_arg_struct op_big Tryz.underlying24 hv hd hw
  obtain ⟨h1, A, n, cap, h2, h3⟩ := hr
  refine ⟨x.1, A, n, cap, x.2, ?_, h3⟩
  have e : cs.toList = [.int .i64 x.1, .slice A n cap] := by
    have h1 : cs.toList.take 1 = [.int .i64 x.1] := h1
    rw [← List.take_append_drop 1 cs.toList, h1, h2]
    rfl
  cases cs
  simp only at e
  subst e
  rfl
end
/-- the variables that the rows of this seat list -/
def laidAll5 : List (String × DataW Unit) := [("math/bits.deBruijn32tab", Rows.laid_math_bits_deBruijn32tab), ("math/bits.deBruijn64tab", Rows.laid_math_bits_deBruijn64tab), ("internal/strconv.uint64pow10", Rows.laid_internal_strconv_uint64pow10), ("unicode/utf8.acceptRanges", Rows.laid_unicode_utf8_acceptRanges), ("unicode/utf8.first", Rows.laid_unicode_utf8_first)]
theorem gPow : Tryz.prog.globalNamed "internal/strconv.uint64pow10" = some 3 := by kernel_rfl
set_option maxRecDepth 100000 in
theorem tab_of {W : World} (h : laidMetH Tryz.prog laidAll5 W) : Tab W := by
  rw [MakeChecks.laidMetH_plain _ _ _ (by kernel_rfl)] at h
  have hr := Lib.laidMet.reads h (n := "internal/strconv.uint64pow10") (d := Rows.laid_internal_strconv_uint64pow10) (List.mem_cons_of_mem _ (List.mem_cons_of_mem _ List.mem_cons_self))
  obtain ⟨g, t, cs, fuel, p, hg, ht, hvar, hd⟩ := hr
  obtain rfl := Option.some.inj (gPow.symm.trans hg)
  obtain rfl := Option.some.inj ((show (Tryz.prog.globals[3]?).map (·.type) = some 145 by kernel_rfl).symm.trans ht)
  have hd2 : DataW.trod (fun _ => ()) Tryz.prog W 0 (fun _ => true) false fuel 145 cs.toList = some (Lib.tabData .u64 Lib.pow10Tab, p) := hd
  have : Lib.TabIs Tryz.prog W "internal/strconv.uint64pow10" .u64 Lib.pow10Tab := by
    unfold Lib.TabIs
    rw [hvar, ← Lib.cells_of_tab Tryz.underlying145 (e := 71) Tryz.underlying71 (by kernel_rfl) (by kernel_rfl) hd2]
  exact Lib.tabBelow_of_tabIs this
end Go.Proofs.YtkeajohkpmabcaaGreatDoor
