/- Laws and walks; conditions stand in each theorem. -/
import Derived.Test.YtdlcglndhhndpaaGreatP01
set_option linter.unusedSimpArgs false
set_option linter.unusedVariables false
namespace Go.Proofs.YtdlcglndhhndpaaGreat
open Go.RowKit
theorem jaZ:(Tryz.prog.info? 4).map (·.size)=some 1:=by kernel_rfl
theorem jg9:(Tryz.prog.info? 23).map (·.size)=some 1:=by kernel_rfl
end Go.Proofs.YtdlcglndhhndpaaGreat
