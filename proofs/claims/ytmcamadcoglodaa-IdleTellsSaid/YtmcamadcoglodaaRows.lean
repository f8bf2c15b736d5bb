/-
  No cell of these rows narrows 'for every input' (looked for: loops, veiled, ifaces, maps, wideKeys, modest, calm, conditions, laid).
  DERIVED. THE GIVEN ROWS OF THIS SEAT. 4 by the template 'for every input the law returns true; each argument reads behind the call as it read before'; 0 by the template 'total and deterministic' (their statements: YtmcamadcoglodaaTotals.lean).
  GIVEN WITH THE SEED: the statements are not yours to turn. If you find one false, say at which input.
  Laid BY PROGRAM, IN A SANDBOX (cutbox-rows.mjs): the forced cells as the released guide's own fill.sh prints them over the translation 9ce87ad0005a00b7… (all of the seat's roots in one cut). By AI agents, Wed Nov 11 2026. No macro, syntax, notation, axiom, sorry.
-/
import Derived.Test.YtmcamadcoglodaaChecked
import GoSem.Claim
import GoSem.ClaimJoined
import GoSem.ClaimMapViews
import Derived.JoinedTies
import Derived.KernelRfl
namespace Go.Proofs.Ytmcamadcoglodaa
/- THE CELL 'sum', in the pinned program and in every row, IS THE sha256 OF THE DUMP (.gsa) THAT YtmcamadcoglodaaProg.lean LOADS. Nothing in Lean hashes anything: it is a label: what it is worth is what the hold of that sum in a sandbox is worth. -/
noncomputable def Try.pinned : Pinned := { name := "ytmcamadcoglodaa", sum := "9ce87ad0005a00b7cd425b9f2a632f8be2a02d697e418eda0e897c67cbfc5399", checked := Try.checked }
namespace Rows
def none {H : Type} : Left H := { results := [], args := [] }

/-- 'tonneaulaw24.IdleTells': WHATEVER THE INPUT: true; the input reads as it did. -/
def idleTellsSpec : ChangeSpec := { name := "idleTells", fn := fun _ => fun
  | [d1, d2, d3] => { results := [.lit (.bool true)], args := [d1, d2, d3] }
  | _ => none }
def idleTellsRow : OpenClaim := { program := "ytmcamadcoglodaa", sum := "9ce87ad0005a00b7cd425b9f2a632f8be2a02d697e418eda0e897c67cbfc5399", func := "tonneau/tonneaulaw24.IdleTells", spec := "idleTells", unfollowed := true, recurses := true, apart := false }
def IdleTellsSaid : Prop := idleTellsRow.holds Try.pinned (OpenSpec.ofChange idleTellsSpec)

/-- ITS FALSE NEIGHBOUR: 'it returns false'. Refute it at one input. -/
def idleTellsWrong : ChangeSpec := { name := "idleTells", fn := fun _ => fun
  | [d1, d2, d3] => { results := [.lit (.bool false)], args := [d1, d2, d3] }
  | _ => none }
def IdleTellsWrongFalsely : Prop := idleTellsRow.holds Try.pinned (OpenSpec.ofChange idleTellsWrong)

/-- 'tonneaulaw24.IdleBest': WHATEVER THE INPUT: true; the input reads as it did. -/
def idleBestSpec : ChangeSpec := { name := "idleBest", fn := fun _ => fun
  | [d1, d2, d3] => { results := [.lit (.bool true)], args := [d1, d2, d3] }
  | _ => none }
def idleBestRow : OpenClaim := { program := "ytmcamadcoglodaa", sum := "9ce87ad0005a00b7cd425b9f2a632f8be2a02d697e418eda0e897c67cbfc5399", func := "tonneau/tonneaulaw24.IdleBest", spec := "idleBest", unfollowed := true, recurses := true, apart := false }
def IdleBestSaid : Prop := idleBestRow.holds Try.pinned (OpenSpec.ofChange idleBestSpec)

/-- ITS FALSE NEIGHBOUR: 'it returns false'. Refute it at one input. -/
def idleBestWrong : ChangeSpec := { name := "idleBest", fn := fun _ => fun
  | [d1, d2, d3] => { results := [.lit (.bool false)], args := [d1, d2, d3] }
  | _ => none }
def IdleBestWrongFalsely : Prop := idleBestRow.holds Try.pinned (OpenSpec.ofChange idleBestWrong)

/-- 'tonneaulaw24.IdleRegret': WHATEVER THE INPUT: true; the input reads as it did. -/
def idleRegretSpec : ChangeSpec := { name := "idleRegret", fn := fun _ => fun
  | [d1, d2, d3, d4] => { results := [.lit (.bool true)], args := [d1, d2, d3, d4] }
  | _ => none }
def idleRegretRow : OpenClaim := { program := "ytmcamadcoglodaa", sum := "9ce87ad0005a00b7cd425b9f2a632f8be2a02d697e418eda0e897c67cbfc5399", func := "tonneau/tonneaulaw24.IdleRegret", spec := "idleRegret", unfollowed := true, recurses := true, apart := false }
def IdleRegretSaid : Prop := idleRegretRow.holds Try.pinned (OpenSpec.ofChange idleRegretSpec)

/-- ITS FALSE NEIGHBOUR: 'it returns false'. Refute it at one input. -/
def idleRegretWrong : ChangeSpec := { name := "idleRegret", fn := fun _ => fun
  | [d1, d2, d3, d4] => { results := [.lit (.bool false)], args := [d1, d2, d3, d4] }
  | _ => none }
def IdleRegretWrongFalsely : Prop := idleRegretRow.holds Try.pinned (OpenSpec.ofChange idleRegretWrong)

/-- 'tonneaulaw24.IdleMore': WHATEVER THE INPUT: true; the input reads as it did. -/
def idleMoreSpec : ChangeSpec := { name := "idleMore", fn := fun _ => fun
  | [d1, d2, d3, d4] => { results := [.lit (.bool true)], args := [d1, d2, d3, d4] }
  | _ => none }
def idleMoreRow : OpenClaim := { program := "ytmcamadcoglodaa", sum := "9ce87ad0005a00b7cd425b9f2a632f8be2a02d697e418eda0e897c67cbfc5399", func := "tonneau/tonneaulaw24.IdleMore", spec := "idleMore", unfollowed := true, recurses := true, apart := false }
def IdleMoreSaid : Prop := idleMoreRow.holds Try.pinned (OpenSpec.ofChange idleMoreSpec)

/-- ITS FALSE NEIGHBOUR: 'it returns false'. Refute it at one input. -/
def idleMoreWrong : ChangeSpec := { name := "idleMore", fn := fun _ => fun
  | [d1, d2, d3, d4] => { results := [.lit (.bool false)], args := [d1, d2, d3, d4] }
  | _ => none }
def IdleMoreWrongFalsely : Prop := idleMoreRow.holds Try.pinned (OpenSpec.ofChange idleMoreWrong)

/- THE SECOND FORM. 'bulk': how many values and letters a reading holds, each counted each time it is reached (what is shared counts as often as it is met; a slice's spare places count too). A statement '..UptoSaid' is the law's where the arguments, and the package variables that the reading takes, are together of bulk at most 1048576: NARROWER than '..Said'. Prove '..Said' where nothing that the law and all that it calls make is longer than what came in: it says more and counts as full. Else prove '..UptoSaid'. A law counts once. -/
mutual
def uptoBulk {H : Type} : DataW H → Nat
  | .lit (.string bytes) => bytes.length + 1
  | .lit _ => 1
  | .nil => 1
  | .ptr d => uptoBulk d + 1
  | .slice elems spare => uptoBulkAll elems + uptoBulkAll spare + 1
  | .agg parts => uptoBulkAll parts + 1
  | .iface _ d => uptoBulk d + 1
  | .map entries => uptoBulkEntries entries + 1
  | .held _ => 1
def uptoBulkAll {H : Type} : List (DataW H) → Nat
  | [] => 0
  | d :: r => uptoBulk d + uptoBulkAll r
def uptoBulkEntries {H : Type} : List (Lit × DataW H) → Nat
  | [] => 0
  | x :: r => uptoBulkEntry x + uptoBulkEntries r
def uptoBulkEntry {H : Type} : Lit × DataW H → Nat
  | (.string bytes, d) => bytes.length + uptoBulk d + 1
  | (_, d) => uptoBulk d + 1
 end
def uptoSmall : (H : Type) → List (DataW H) → Bool := fun _ ds => decide (uptoBulkAll ds ≤ 1048576)
def OpenSpec.upto (s : _root_.Go.ChangeSpec) : _root_.Go.OpenSpec := { _root_.Go.OpenSpec.ofChange s with cond := some uptoSmall }

/-- 'tonneaulaw24.IdleTells', WHERE WHAT IT READS IS OF BULK AT MOST 1048576: true; the input reads as it did. -/
def idleTellsUptoRow : OpenClaim := { program := "ytmcamadcoglodaa", sum := "9ce87ad0005a00b7cd425b9f2a632f8be2a02d697e418eda0e897c67cbfc5399", func := "tonneau/tonneaulaw24.IdleTells", spec := "idleTells", unfollowed := true, recurses := true, apart := false, narrowed := true }
def IdleTellsUptoSaid : Prop := idleTellsUptoRow.holds Try.pinned (OpenSpec.upto idleTellsSpec)

/-- 'tonneaulaw24.IdleBest', WHERE WHAT IT READS IS OF BULK AT MOST 1048576: true; the input reads as it did. -/
def idleBestUptoRow : OpenClaim := { program := "ytmcamadcoglodaa", sum := "9ce87ad0005a00b7cd425b9f2a632f8be2a02d697e418eda0e897c67cbfc5399", func := "tonneau/tonneaulaw24.IdleBest", spec := "idleBest", unfollowed := true, recurses := true, apart := false, narrowed := true }
def IdleBestUptoSaid : Prop := idleBestUptoRow.holds Try.pinned (OpenSpec.upto idleBestSpec)

/-- 'tonneaulaw24.IdleRegret', WHERE WHAT IT READS IS OF BULK AT MOST 1048576: true; the input reads as it did. -/
def idleRegretUptoRow : OpenClaim := { program := "ytmcamadcoglodaa", sum := "9ce87ad0005a00b7cd425b9f2a632f8be2a02d697e418eda0e897c67cbfc5399", func := "tonneau/tonneaulaw24.IdleRegret", spec := "idleRegret", unfollowed := true, recurses := true, apart := false, narrowed := true }
def IdleRegretUptoSaid : Prop := idleRegretUptoRow.holds Try.pinned (OpenSpec.upto idleRegretSpec)

/-- 'tonneaulaw24.IdleMore', WHERE WHAT IT READS IS OF BULK AT MOST 1048576: true; the input reads as it did. -/
def idleMoreUptoRow : OpenClaim := { program := "ytmcamadcoglodaa", sum := "9ce87ad0005a00b7cd425b9f2a632f8be2a02d697e418eda0e897c67cbfc5399", func := "tonneau/tonneaulaw24.IdleMore", spec := "idleMore", unfollowed := true, recurses := true, apart := false, narrowed := true }
def IdleMoreUptoSaid : Prop := idleMoreUptoRow.holds Try.pinned (OpenSpec.upto idleMoreSpec)

end Rows
end Go.Proofs.Ytmcamadcoglodaa
