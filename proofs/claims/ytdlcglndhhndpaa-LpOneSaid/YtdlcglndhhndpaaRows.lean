/-
  No cell of these rows narrows 'for every input' (looked for: loops, veiled, ifaces, maps, wideKeys, modest, calm, conditions, laid).
  DERIVED. THE GIVEN ROWS OF THIS SEAT. 7 by the template 'for every input the law returns true; each argument reads behind the call as it read before'; 0 by the template 'total and deterministic' (their statements: YtdlcglndhhndpaaTotals.lean).
  GIVEN WITH THE SEED: the statements are not yours to turn. If you find one false, say at which input.
  Laid BY PROGRAM, IN A SANDBOX (cutbox-rows.mjs): the forced cells as the released guide's own fill.sh prints them over the translation 675454c06dde2d6b… (all of the seat's roots in one cut). By AI agents, Wed Nov 11 2026. No macro, syntax, notation, axiom, sorry.
-/
import Derived.Test.YtdlcglndhhndpaaChecked
import GoSem.Claim
import GoSem.ClaimJoined
import GoSem.ClaimMapViews
import Derived.JoinedTies
import Derived.KernelRfl
namespace Go.Proofs.Ytdlcglndhhndpaa
/- THE CELL 'sum', in the pinned program and in every row, IS THE sha256 OF THE DUMP (.gsa) THAT YtdlcglndhhndpaaProg.lean LOADS. Nothing in Lean hashes anything: it is a label: what it is worth is what the hold of that sum in a sandbox is worth. -/
noncomputable def Try.pinned : Pinned := { name := "ytdlcglndhhndpaa", sum := "675454c06dde2d6b97a07314b66288657cc699cd0da72b864305604d05a1dad6", checked := Try.checked }
namespace Rows
def none {H : Type} : Left H := { results := [], args := [] }

/-- 'tonneaulaw06.LinearOnly': WHATEVER THE INPUT: true; the input reads as it did. -/
def linearOnlySpec : ChangeSpec := { name := "linearOnly", fn := fun _ => fun
  | [d1, d2] => { results := [.lit (.bool true)], args := [d1, d2] }
  | _ => none }
def linearOnlyRow : OpenClaim := { program := "ytdlcglndhhndpaa", sum := "675454c06dde2d6b97a07314b66288657cc699cd0da72b864305604d05a1dad6", func := "tonneau/tonneaulaw06.LinearOnly", spec := "linearOnly", unfollowed := true, recurses := true, apart := false }
def LinearOnlySaid : Prop := linearOnlyRow.holds Try.pinned (OpenSpec.ofChange linearOnlySpec)

/-- ITS FALSE NEIGHBOUR: 'it returns false'. Refute it at one input. -/
def linearOnlyWrong : ChangeSpec := { name := "linearOnly", fn := fun _ => fun
  | [d1, d2] => { results := [.lit (.bool false)], args := [d1, d2] }
  | _ => none }
def LinearOnlyWrongFalsely : Prop := linearOnlyRow.holds Try.pinned (OpenSpec.ofChange linearOnlyWrong)

/-- 'tonneaulaw06.LinearMoves': WHATEVER THE INPUT: true; the input reads as it did. -/
def linearMovesSpec : ChangeSpec := { name := "linearMoves", fn := fun _ => fun
  | [d1, d2, d3, d4] => { results := [.lit (.bool true)], args := [d1, d2, d3, d4] }
  | _ => none }
def linearMovesRow : OpenClaim := { program := "ytdlcglndhhndpaa", sum := "675454c06dde2d6b97a07314b66288657cc699cd0da72b864305604d05a1dad6", func := "tonneau/tonneaulaw06.LinearMoves", spec := "linearMoves", unfollowed := true, recurses := true, apart := false }
def LinearMovesSaid : Prop := linearMovesRow.holds Try.pinned (OpenSpec.ofChange linearMovesSpec)

/-- ITS FALSE NEIGHBOUR: 'it returns false'. Refute it at one input. -/
def linearMovesWrong : ChangeSpec := { name := "linearMoves", fn := fun _ => fun
  | [d1, d2, d3, d4] => { results := [.lit (.bool false)], args := [d1, d2, d3, d4] }
  | _ => none }
def LinearMovesWrongFalsely : Prop := linearMovesRow.holds Try.pinned (OpenSpec.ofChange linearMovesWrong)

/-- 'tonneaulaw06.LinearSums': WHATEVER THE INPUT: true; the input reads as it did. -/
def linearSumsSpec : ChangeSpec := { name := "linearSums", fn := fun _ => fun
  | [d1, d2] => { results := [.lit (.bool true)], args := [d1, d2] }
  | _ => none }
def linearSumsRow : OpenClaim := { program := "ytdlcglndhhndpaa", sum := "675454c06dde2d6b97a07314b66288657cc699cd0da72b864305604d05a1dad6", func := "tonneau/tonneaulaw06.LinearSums", spec := "linearSums", unfollowed := true, recurses := true, apart := false }
def LinearSumsSaid : Prop := linearSumsRow.holds Try.pinned (OpenSpec.ofChange linearSumsSpec)

/-- ITS FALSE NEIGHBOUR: 'it returns false'. Refute it at one input. -/
def linearSumsWrong : ChangeSpec := { name := "linearSums", fn := fun _ => fun
  | [d1, d2] => { results := [.lit (.bool false)], args := [d1, d2] }
  | _ => none }
def LinearSumsWrongFalsely : Prop := linearSumsRow.holds Try.pinned (OpenSpec.ofChange linearSumsWrong)

/-- 'tonneaulaw06.LinearRank': WHATEVER THE INPUT: true; the input reads as it did. -/
def linearRankSpec : ChangeSpec := { name := "linearRank", fn := fun _ => fun
  | [d1, d2, d3] => { results := [.lit (.bool true)], args := [d1, d2, d3] }
  | _ => none }
def linearRankRow : OpenClaim := { program := "ytdlcglndhhndpaa", sum := "675454c06dde2d6b97a07314b66288657cc699cd0da72b864305604d05a1dad6", func := "tonneau/tonneaulaw06.LinearRank", spec := "linearRank", unfollowed := true, recurses := true, apart := false }
def LinearRankSaid : Prop := linearRankRow.holds Try.pinned (OpenSpec.ofChange linearRankSpec)

/-- ITS FALSE NEIGHBOUR: 'it returns false'. Refute it at one input. -/
def linearRankWrong : ChangeSpec := { name := "linearRank", fn := fun _ => fun
  | [d1, d2, d3] => { results := [.lit (.bool false)], args := [d1, d2, d3] }
  | _ => none }
def LinearRankWrongFalsely : Prop := linearRankRow.holds Try.pinned (OpenSpec.ofChange linearRankWrong)

/-- 'tonneaulaw09.LpTurns': WHATEVER THE INPUT: true; the input reads as it did. -/
def lpTurnsSpec : ChangeSpec := { name := "lpTurns", fn := fun _ => fun
  | [d] => { results := [.lit (.bool true)], args := [d] }
  | _ => none }
def lpTurnsRow : OpenClaim := { program := "ytdlcglndhhndpaa", sum := "675454c06dde2d6b97a07314b66288657cc699cd0da72b864305604d05a1dad6", func := "tonneau/tonneaulaw09.LpTurns", spec := "lpTurns", unfollowed := true, recurses := true, apart := false }
def LpTurnsSaid : Prop := lpTurnsRow.holds Try.pinned (OpenSpec.ofChange lpTurnsSpec)

/-- ITS FALSE NEIGHBOUR: 'it returns false'. Refute it at one input. -/
def lpTurnsWrong : ChangeSpec := { name := "lpTurns", fn := fun _ => fun
  | [d] => { results := [.lit (.bool false)], args := [d] }
  | _ => none }
def LpTurnsWrongFalsely : Prop := lpTurnsRow.holds Try.pinned (OpenSpec.ofChange lpTurnsWrong)

/-- 'tonneaulaw09.LpScales': WHATEVER THE INPUT: true; the input reads as it did. -/
def lpScalesSpec : ChangeSpec := { name := "lpScales", fn := fun _ => fun
  | [d1, d2, d3, d4, d5] => { results := [.lit (.bool true)], args := [d1, d2, d3, d4, d5] }
  | _ => none }
def lpScalesRow : OpenClaim := { program := "ytdlcglndhhndpaa", sum := "675454c06dde2d6b97a07314b66288657cc699cd0da72b864305604d05a1dad6", func := "tonneau/tonneaulaw09.LpScales", spec := "lpScales", unfollowed := true, recurses := true, apart := false }
def LpScalesSaid : Prop := lpScalesRow.holds Try.pinned (OpenSpec.ofChange lpScalesSpec)

/-- ITS FALSE NEIGHBOUR: 'it returns false'. Refute it at one input. -/
def lpScalesWrong : ChangeSpec := { name := "lpScales", fn := fun _ => fun
  | [d1, d2, d3, d4, d5] => { results := [.lit (.bool false)], args := [d1, d2, d3, d4, d5] }
  | _ => none }
def LpScalesWrongFalsely : Prop := lpScalesRow.holds Try.pinned (OpenSpec.ofChange lpScalesWrong)

/-- 'tonneaulaw09.LpOne': WHATEVER THE INPUT: true; the input reads as it did. -/
def lpOneSpec : ChangeSpec := { name := "lpOne", fn := fun _ => fun
  | [d1, d2, d3] => { results := [.lit (.bool true)], args := [d1, d2, d3] }
  | _ => none }
def lpOneRow : OpenClaim := { program := "ytdlcglndhhndpaa", sum := "675454c06dde2d6b97a07314b66288657cc699cd0da72b864305604d05a1dad6", func := "tonneau/tonneaulaw09.LpOne", spec := "lpOne", unfollowed := true, recurses := true, apart := false }
def LpOneSaid : Prop := lpOneRow.holds Try.pinned (OpenSpec.ofChange lpOneSpec)

/-- ITS FALSE NEIGHBOUR: 'it returns false'. Refute it at one input. -/
def lpOneWrong : ChangeSpec := { name := "lpOne", fn := fun _ => fun
  | [d1, d2, d3] => { results := [.lit (.bool false)], args := [d1, d2, d3] }
  | _ => none }
def LpOneWrongFalsely : Prop := lpOneRow.holds Try.pinned (OpenSpec.ofChange lpOneWrong)

/- THE SECOND FORM. 'bulk': how many values and letters a reading holds, each counted each time it is reached (what is shared counts as often as it is met; a slice's spare places count too). A statement '..UptoSaid' is the law's where the arguments, and the package variables that the reading takes, are together of bulk at most 1048576: NARROWER than '..Said'. Prove '..Said' where nothing that the law and all that it calls make is longer than what came in: it says more and counts as full. Else prove '..UptoSaid'. A law counts once. -/
mutual
def uptoBulk {H : Type} : DataW H → Nat
  | .lit (.string bytes) => bytes.length + 1
  | .lit _ => 1
  | .nil => 1
  | .ptr d => uptoBulk d + 1
  | .slice elems spare => uptoBulkAll elems + uptoBulkAll spare + 1
  | .agg parts => uptoBulkAll parts + 1
  | .iface _ d => uptoBulk d + 1
  | .map entries => uptoBulkEntries entries + 1
  | .held _ => 1
def uptoBulkAll {H : Type} : List (DataW H) → Nat
  | [] => 0
  | d :: r => uptoBulk d + uptoBulkAll r
def uptoBulkEntries {H : Type} : List (Lit × DataW H) → Nat
  | [] => 0
  | x :: r => uptoBulkEntry x + uptoBulkEntries r
def uptoBulkEntry {H : Type} : Lit × DataW H → Nat
  | (.string bytes, d) => bytes.length + uptoBulk d + 1
  | (_, d) => uptoBulk d + 1
 end
def uptoSmall : (H : Type) → List (DataW H) → Bool := fun _ ds => decide (uptoBulkAll ds ≤ 1048576)
def OpenSpec.upto (s : _root_.Go.ChangeSpec) : _root_.Go.OpenSpec := { _root_.Go.OpenSpec.ofChange s with cond := some uptoSmall }

/-- 'tonneaulaw06.LinearOnly', WHERE WHAT IT READS IS OF BULK AT MOST 1048576: true; the input reads as it did. -/
def linearOnlyUptoRow : OpenClaim := { program := "ytdlcglndhhndpaa", sum := "675454c06dde2d6b97a07314b66288657cc699cd0da72b864305604d05a1dad6", func := "tonneau/tonneaulaw06.LinearOnly", spec := "linearOnly", unfollowed := true, recurses := true, apart := false, narrowed := true }
def LinearOnlyUptoSaid : Prop := linearOnlyUptoRow.holds Try.pinned (OpenSpec.upto linearOnlySpec)

/-- 'tonneaulaw06.LinearMoves', WHERE WHAT IT READS IS OF BULK AT MOST 1048576: true; the input reads as it did. -/
def linearMovesUptoRow : OpenClaim := { program := "ytdlcglndhhndpaa", sum := "675454c06dde2d6b97a07314b66288657cc699cd0da72b864305604d05a1dad6", func := "tonneau/tonneaulaw06.LinearMoves", spec := "linearMoves", unfollowed := true, recurses := true, apart := false, narrowed := true }
def LinearMovesUptoSaid : Prop := linearMovesUptoRow.holds Try.pinned (OpenSpec.upto linearMovesSpec)

/-- 'tonneaulaw06.LinearSums', WHERE WHAT IT READS IS OF BULK AT MOST 1048576: true; the input reads as it did. -/
def linearSumsUptoRow : OpenClaim := { program := "ytdlcglndhhndpaa", sum := "675454c06dde2d6b97a07314b66288657cc699cd0da72b864305604d05a1dad6", func := "tonneau/tonneaulaw06.LinearSums", spec := "linearSums", unfollowed := true, recurses := true, apart := false, narrowed := true }
def LinearSumsUptoSaid : Prop := linearSumsUptoRow.holds Try.pinned (OpenSpec.upto linearSumsSpec)

/-- 'tonneaulaw06.LinearRank', WHERE WHAT IT READS IS OF BULK AT MOST 1048576: true; the input reads as it did. -/
def linearRankUptoRow : OpenClaim := { program := "ytdlcglndhhndpaa", sum := "675454c06dde2d6b97a07314b66288657cc699cd0da72b864305604d05a1dad6", func := "tonneau/tonneaulaw06.LinearRank", spec := "linearRank", unfollowed := true, recurses := true, apart := false, narrowed := true }
def LinearRankUptoSaid : Prop := linearRankUptoRow.holds Try.pinned (OpenSpec.upto linearRankSpec)

/-- 'tonneaulaw09.LpTurns', WHERE WHAT IT READS IS OF BULK AT MOST 1048576: true; the input reads as it did. -/
def lpTurnsUptoRow : OpenClaim := { program := "ytdlcglndhhndpaa", sum := "675454c06dde2d6b97a07314b66288657cc699cd0da72b864305604d05a1dad6", func := "tonneau/tonneaulaw09.LpTurns", spec := "lpTurns", unfollowed := true, recurses := true, apart := false, narrowed := true }
def LpTurnsUptoSaid : Prop := lpTurnsUptoRow.holds Try.pinned (OpenSpec.upto lpTurnsSpec)

/-- 'tonneaulaw09.LpScales', WHERE WHAT IT READS IS OF BULK AT MOST 1048576: true; the input reads as it did. -/
def lpScalesUptoRow : OpenClaim := { program := "ytdlcglndhhndpaa", sum := "675454c06dde2d6b97a07314b66288657cc699cd0da72b864305604d05a1dad6", func := "tonneau/tonneaulaw09.LpScales", spec := "lpScales", unfollowed := true, recurses := true, apart := false, narrowed := true }
def LpScalesUptoSaid : Prop := lpScalesUptoRow.holds Try.pinned (OpenSpec.upto lpScalesSpec)

/-- 'tonneaulaw09.LpOne', WHERE WHAT IT READS IS OF BULK AT MOST 1048576: true; the input reads as it did. -/
def lpOneUptoRow : OpenClaim := { program := "ytdlcglndhhndpaa", sum := "675454c06dde2d6b97a07314b66288657cc699cd0da72b864305604d05a1dad6", func := "tonneau/tonneaulaw09.LpOne", spec := "lpOne", unfollowed := true, recurses := true, apart := false, narrowed := true }
def LpOneUptoSaid : Prop := lpOneUptoRow.holds Try.pinned (OpenSpec.upto lpOneSpec)

end Rows
end Go.Proofs.Ytdlcglndhhndpaa
