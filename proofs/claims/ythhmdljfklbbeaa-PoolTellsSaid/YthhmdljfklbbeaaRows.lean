/-
  No cell of these rows narrows 'for every input' (looked for: loops, veiled, ifaces, maps, wideKeys, modest, calm, conditions, laid).
  DERIVED. THE GIVEN ROWS OF THIS SEAT. 5 by the template 'for every input the law returns true; each argument reads behind the call as it read before'; 0 by the template 'total and deterministic' (their statements: YthhmdljfklbbeaaTotals.lean).
  GIVEN WITH THE SEED: the statements are not yours to turn. If you find one false, say at which input.
  Laid BY PROGRAM, IN A SANDBOX (cutbox-rows.mjs): the forced cells as the released guide's own fill.sh prints them over the translation dead821f3884e1d3… (all of the seat's roots in one cut). By AI agents, Wed Nov 11 2026. No macro, syntax, notation, axiom, sorry.
-/
import Derived.Test.YthhmdljfklbbeaaChecked
import GoSem.Claim
import GoSem.ClaimJoined
import GoSem.ClaimMapViews
import Derived.JoinedTies
import Derived.KernelRfl
namespace Go.Proofs.Ythhmdljfklbbeaa
/- THE CELL 'sum', in the pinned program and in every row, IS THE sha256 OF THE DUMP (.gsa) THAT YthhmdljfklbbeaaProg.lean LOADS. Nothing in Lean hashes anything: it is a label: what it is worth is what the hold of that sum in a sandbox is worth. -/
noncomputable def Try.pinned : Pinned := { name := "ythhmdljfklbbeaa", sum := "dead821f3884e1d3abc63bcb59b97f69098a0d6f32e642e8c24ced3dbe285759", checked := Try.checked }
namespace Rows
def none {H : Type} : Left H := { results := [], args := [] }

/-- 'tonneaulaw36.PoolTells': WHATEVER THE INPUT: true; the input reads as it did. -/
def poolTellsSpec : ChangeSpec := { name := "poolTells", fn := fun _ => fun
  | [d1, d2, d3] => { results := [.lit (.bool true)], args := [d1, d2, d3] }
  | _ => none }
def poolTellsRow : OpenClaim := { program := "ythhmdljfklbbeaa", sum := "dead821f3884e1d3abc63bcb59b97f69098a0d6f32e642e8c24ced3dbe285759", func := "tonneau/tonneaulaw36.PoolTells", spec := "poolTells", unfollowed := true, recurses := true, apart := false }
def PoolTellsSaid : Prop := poolTellsRow.holds Try.pinned (OpenSpec.ofChange poolTellsSpec)

/-- ITS FALSE NEIGHBOUR: 'it returns false'. Refute it at one input. -/
def poolTellsWrong : ChangeSpec := { name := "poolTells", fn := fun _ => fun
  | [d1, d2, d3] => { results := [.lit (.bool false)], args := [d1, d2, d3] }
  | _ => none }
def PoolTellsWrongFalsely : Prop := poolTellsRow.holds Try.pinned (OpenSpec.ofChange poolTellsWrong)

/-- 'tonneaulaw36.PoolSolvent': WHATEVER THE INPUT: true; the input reads as it did. -/
def poolSolventSpec : ChangeSpec := { name := "poolSolvent", fn := fun _ => fun
  | [d1, d2, d3] => { results := [.lit (.bool true)], args := [d1, d2, d3] }
  | _ => none }
def poolSolventRow : OpenClaim := { program := "ythhmdljfklbbeaa", sum := "dead821f3884e1d3abc63bcb59b97f69098a0d6f32e642e8c24ced3dbe285759", func := "tonneau/tonneaulaw36.PoolSolvent", spec := "poolSolvent", unfollowed := true, recurses := true, apart := false }
def PoolSolventSaid : Prop := poolSolventRow.holds Try.pinned (OpenSpec.ofChange poolSolventSpec)

/-- ITS FALSE NEIGHBOUR: 'it returns false'. Refute it at one input. -/
def poolSolventWrong : ChangeSpec := { name := "poolSolvent", fn := fun _ => fun
  | [d1, d2, d3] => { results := [.lit (.bool false)], args := [d1, d2, d3] }
  | _ => none }
def PoolSolventWrongFalsely : Prop := poolSolventRow.holds Try.pinned (OpenSpec.ofChange poolSolventWrong)

/-- 'tonneaulaw36.PoolWorst': WHATEVER THE INPUT: true; the input reads as it did. -/
def poolWorstSpec : ChangeSpec := { name := "poolWorst", fn := fun _ => fun
  | [d1, d2, d3, d4] => { results := [.lit (.bool true)], args := [d1, d2, d3, d4] }
  | _ => none }
def poolWorstRow : OpenClaim := { program := "ythhmdljfklbbeaa", sum := "dead821f3884e1d3abc63bcb59b97f69098a0d6f32e642e8c24ced3dbe285759", func := "tonneau/tonneaulaw36.PoolWorst", spec := "poolWorst", unfollowed := true, recurses := true, apart := false }
def PoolWorstSaid : Prop := poolWorstRow.holds Try.pinned (OpenSpec.ofChange poolWorstSpec)

/-- ITS FALSE NEIGHBOUR: 'it returns false'. Refute it at one input. -/
def poolWorstWrong : ChangeSpec := { name := "poolWorst", fn := fun _ => fun
  | [d1, d2, d3, d4] => { results := [.lit (.bool false)], args := [d1, d2, d3, d4] }
  | _ => none }
def PoolWorstWrongFalsely : Prop := poolWorstRow.holds Try.pinned (OpenSpec.ofChange poolWorstWrong)

/-- 'tonneaulaw36.PoolRuns': WHATEVER THE INPUT: true; the input reads as it did. -/
def poolRunsSpec : ChangeSpec := { name := "poolRuns", fn := fun _ => fun
  | [d1, d2, d3] => { results := [.lit (.bool true)], args := [d1, d2, d3] }
  | _ => none }
def poolRunsRow : OpenClaim := { program := "ythhmdljfklbbeaa", sum := "dead821f3884e1d3abc63bcb59b97f69098a0d6f32e642e8c24ced3dbe285759", func := "tonneau/tonneaulaw36.PoolRuns", spec := "poolRuns", unfollowed := true, recurses := true, apart := false }
def PoolRunsSaid : Prop := poolRunsRow.holds Try.pinned (OpenSpec.ofChange poolRunsSpec)

/-- ITS FALSE NEIGHBOUR: 'it returns false'. Refute it at one input. -/
def poolRunsWrong : ChangeSpec := { name := "poolRuns", fn := fun _ => fun
  | [d1, d2, d3] => { results := [.lit (.bool false)], args := [d1, d2, d3] }
  | _ => none }
def PoolRunsWrongFalsely : Prop := poolRunsRow.holds Try.pinned (OpenSpec.ofChange poolRunsWrong)

/-- 'tonneaulaw36.PoolMore': WHATEVER THE INPUT: true; the input reads as it did. -/
def poolMoreSpec : ChangeSpec := { name := "poolMore", fn := fun _ => fun
  | [d1, d2, d3, d4] => { results := [.lit (.bool true)], args := [d1, d2, d3, d4] }
  | _ => none }
def poolMoreRow : OpenClaim := { program := "ythhmdljfklbbeaa", sum := "dead821f3884e1d3abc63bcb59b97f69098a0d6f32e642e8c24ced3dbe285759", func := "tonneau/tonneaulaw36.PoolMore", spec := "poolMore", unfollowed := true, recurses := true, apart := false }
def PoolMoreSaid : Prop := poolMoreRow.holds Try.pinned (OpenSpec.ofChange poolMoreSpec)

/-- ITS FALSE NEIGHBOUR: 'it returns false'. Refute it at one input. -/
def poolMoreWrong : ChangeSpec := { name := "poolMore", fn := fun _ => fun
  | [d1, d2, d3, d4] => { results := [.lit (.bool false)], args := [d1, d2, d3, d4] }
  | _ => none }
def PoolMoreWrongFalsely : Prop := poolMoreRow.holds Try.pinned (OpenSpec.ofChange poolMoreWrong)

/- THE SECOND FORM. 'bulk': how many values and letters a reading holds, each counted each time it is reached (what is shared counts as often as it is met; a slice's spare places count too). A statement '..UptoSaid' is the law's where the arguments, and the package variables that the reading takes, are together of bulk at most 1048576: NARROWER than '..Said'. Prove '..Said' where nothing that the law and all that it calls make is longer than what came in: it says more and counts as full. Else prove '..UptoSaid'. A law counts once. -/
mutual
def uptoBulk {H : Type} : DataW H → Nat
  | .lit (.string bytes) => bytes.length + 1
  | .lit _ => 1
  | .nil => 1
  | .ptr d => uptoBulk d + 1
  | .slice elems spare => uptoBulkAll elems + uptoBulkAll spare + 1
  | .agg parts => uptoBulkAll parts + 1
  | .iface _ d => uptoBulk d + 1
  | .map entries => uptoBulkEntries entries + 1
  | .held _ => 1
def uptoBulkAll {H : Type} : List (DataW H) → Nat
  | [] => 0
  | d :: r => uptoBulk d + uptoBulkAll r
def uptoBulkEntries {H : Type} : List (Lit × DataW H) → Nat
  | [] => 0
  | x :: r => uptoBulkEntry x + uptoBulkEntries r
def uptoBulkEntry {H : Type} : Lit × DataW H → Nat
  | (.string bytes, d) => bytes.length + uptoBulk d + 1
  | (_, d) => uptoBulk d + 1
 end
def uptoSmall : (H : Type) → List (DataW H) → Bool := fun _ ds => decide (uptoBulkAll ds ≤ 1048576)
def OpenSpec.upto (s : _root_.Go.ChangeSpec) : _root_.Go.OpenSpec := { _root_.Go.OpenSpec.ofChange s with cond := some uptoSmall }

/-- 'tonneaulaw36.PoolTells', WHERE WHAT IT READS IS OF BULK AT MOST 1048576: true; the input reads as it did. -/
def poolTellsUptoRow : OpenClaim := { program := "ythhmdljfklbbeaa", sum := "dead821f3884e1d3abc63bcb59b97f69098a0d6f32e642e8c24ced3dbe285759", func := "tonneau/tonneaulaw36.PoolTells", spec := "poolTells", unfollowed := true, recurses := true, apart := false, narrowed := true }
def PoolTellsUptoSaid : Prop := poolTellsUptoRow.holds Try.pinned (OpenSpec.upto poolTellsSpec)

/-- 'tonneaulaw36.PoolSolvent', WHERE WHAT IT READS IS OF BULK AT MOST 1048576: true; the input reads as it did. -/
def poolSolventUptoRow : OpenClaim := { program := "ythhmdljfklbbeaa", sum := "dead821f3884e1d3abc63bcb59b97f69098a0d6f32e642e8c24ced3dbe285759", func := "tonneau/tonneaulaw36.PoolSolvent", spec := "poolSolvent", unfollowed := true, recurses := true, apart := false, narrowed := true }
def PoolSolventUptoSaid : Prop := poolSolventUptoRow.holds Try.pinned (OpenSpec.upto poolSolventSpec)

/-- 'tonneaulaw36.PoolWorst', WHERE WHAT IT READS IS OF BULK AT MOST 1048576: true; the input reads as it did. -/
def poolWorstUptoRow : OpenClaim := { program := "ythhmdljfklbbeaa", sum := "dead821f3884e1d3abc63bcb59b97f69098a0d6f32e642e8c24ced3dbe285759", func := "tonneau/tonneaulaw36.PoolWorst", spec := "poolWorst", unfollowed := true, recurses := true, apart := false, narrowed := true }
def PoolWorstUptoSaid : Prop := poolWorstUptoRow.holds Try.pinned (OpenSpec.upto poolWorstSpec)

/-- 'tonneaulaw36.PoolRuns', WHERE WHAT IT READS IS OF BULK AT MOST 1048576: true; the input reads as it did. -/
def poolRunsUptoRow : OpenClaim := { program := "ythhmdljfklbbeaa", sum := "dead821f3884e1d3abc63bcb59b97f69098a0d6f32e642e8c24ced3dbe285759", func := "tonneau/tonneaulaw36.PoolRuns", spec := "poolRuns", unfollowed := true, recurses := true, apart := false, narrowed := true }
def PoolRunsUptoSaid : Prop := poolRunsUptoRow.holds Try.pinned (OpenSpec.upto poolRunsSpec)

/-- 'tonneaulaw36.PoolMore', WHERE WHAT IT READS IS OF BULK AT MOST 1048576: true; the input reads as it did. -/
def poolMoreUptoRow : OpenClaim := { program := "ythhmdljfklbbeaa", sum := "dead821f3884e1d3abc63bcb59b97f69098a0d6f32e642e8c24ced3dbe285759", func := "tonneau/tonneaulaw36.PoolMore", spec := "poolMore", unfollowed := true, recurses := true, apart := false, narrowed := true }
def PoolMoreUptoSaid : Prop := poolMoreUptoRow.holds Try.pinned (OpenSpec.upto poolMoreSpec)

end Rows
end Go.Proofs.Ythhmdljfklbbeaa
