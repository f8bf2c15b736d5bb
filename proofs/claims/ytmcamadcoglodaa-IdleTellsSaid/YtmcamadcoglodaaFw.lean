/- A field of what prices returns. No condition. -/
import Derived.Test.YtmcamadcoglodaaK4
namespace Go.Proofs.Ytmcamadcoglodaa
open Go.RowKit
theorem field_to (w : World) (a c d : Value) : (Instr.field 25 (.agg #[a, c, d]) 0).run Try.prog w = .ok a w := by
  have h1 := Try.underlying25
  have h2 := Try.underlying23
  simp [Instr.field, run_underlying h1, asAgg, part, isAgg, run_underlying h2]
end Go.Proofs.Ytmcamadcoglodaa
