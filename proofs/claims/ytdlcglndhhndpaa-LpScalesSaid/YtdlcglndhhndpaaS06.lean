/- Laws and walks laid together; the conditions stand in each theorem. -/
import Derived.WalkKit
import Derived.Laws.OwnMore
import Derived.Deep.Draws
import Derived.Deep.AppendLies
import Derived.Lib.Hide
import Derived.ProofKit
import Derived.OpenShut
import Derived.ShutString
import Derived.ChangeOld
import Derived.Below
import Derived.SizedLaws
import Derived.Deep.SlicePairs
import Derived.Deep.Slices
import Derived.ChangeSame
import Derived.Maps.AppendAt
import Derived.RegionTactic
import Derived.OwnWalk
import Derived.Laws.CopyRow
import Derived.Laws.CopyOwn
import Derived.Deep.RegionHeld3
import Derived.Test.YtdlcglndhhndpaaProg
import Derived.LoopTactic
import Derived.Deep.QuietTactic
import Derived.BigQuiet
import Derived.Deep.LoopGhost
import Derived.IntWalk
import Derived.Handy
import Derived.Shelf.Abstract
import Derived.Lib.MinMax
import Derived.ArgAppend
import Derived.Laws.BitsLemmas
import Derived.Laws.BitsAllLaws
import Derived.Lib.LazyBuf
import Derived.Outline
import Derived.Test.YtdlcglndhhndpaaS01
import Derived.Test.YtdlcglndhhndpaaT43
import Derived.Test.YtdlcglndhhndpaaT09
set_option linter.unusedVariables false
namespace Go.Proofs.Ytdlcglndhhndpaa
open Go.ChangeShapes Go.WideShapes Go.ChangeAt Go.RowKit Go.Deep
section
variable {H : Type} {enc : TypeId × Value → H} {w : World}
variable {r : Reach} {b0 : Nat} {v : Value} {d : DataW H} {p : List MemPlace}
set_option maxRecDepth 100000 in
theorem arg_frc (hv : Value.okWide Try.prog w r b0 40 v) (hd : DataW.Trod enc Try.prog w 0 (fun _ => true) true 40 v d p) (hw : ∀ n ∈ d.weights Try.prog 40, n ≤ reachBytes) :
    ∃ s t A B n cap m cap' l k, v = .agg #[.int .i64 s, .slice A n cap, .int .i64 t, .slice B m cap'] ∧ RdI w w.heap.size A n cap l ∧ RdI w w.heap.size B m cap' k := by
  obtain ⟨cs, x, rfl, hr, _⟩ := opens_arg_struct op_fracc Try.underlying40 hv hd hw
  obtain ⟨h1, h2⟩ := hr
  obtain ⟨A, n, cap, e1, r1⟩ := bgc_cells h1
  obtain ⟨B, m, cap', e2, r2⟩ := bgc_cells h2
  refine ⟨x.1.1, x.2.1, A, B, n, cap, m, cap', x.1.2, x.2.2, ?_, r1, r2⟩
  have e : cs.toList = [.int .i64 x.1.1, .slice A n cap, .int .i64 x.2.1, .slice B m cap'] := by
    rw [← List.take_append_drop 2 cs.toList, e1, e2]
    rfl
  cases cs
  simp only at e
  subst e
  rfl
end
end Go.Proofs.Ytdlcglndhhndpaa
