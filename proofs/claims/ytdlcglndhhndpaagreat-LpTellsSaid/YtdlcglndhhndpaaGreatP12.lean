/- Laws and walks; conditions stand in each theorem. -/
import Derived.Test.YtdlcglndhhndpaaGreatP06
set_option linter.unusedSimpArgs false
set_option linter.unusedVariables false
namespace Go.Proofs.YtdlcglndhhndpaaGreat
open Go.RowKit
set_option maxRecDepth 100000
theorem OptF.std {s:Int} {l:List Int} {t:Int} {m:List Int} {q:Rat} (h:OptF s l t m (some q)):StdF s l t m q:=h
end Go.Proofs.YtdlcglndhhndpaaGreat
