/-
  No cell of these rows narrows 'for every input' (looked for: loops, veiled, ifaces, maps, wideKeys, modest, calm, conditions, laid).
  DERIVED. THE GIVEN ROWS OF THIS SEAT. 5 by the template 'for every input the law returns true; each argument reads behind the call as it read before'; 0 by the template 'total and deterministic' (their statements: YthmnkmomgaamlaaTotals.lean).
  GIVEN WITH THE SEED: the statements are not yours to turn. If you find one false, say at which input.
  Laid BY PROGRAM, IN A SANDBOX (cutbox-rows.mjs): the forced cells as the released guide's own fill.sh prints them over the translation eedea1522e850d90… (all of the seat's roots in one cut). By AI agents, Wed Nov 11 2026. No macro, syntax, notation, axiom, sorry.
-/
import Derived.Test.YthmnkmomgaamlaaChecked
import GoSem.Claim
import GoSem.ClaimJoined
import GoSem.ClaimMapViews
import Derived.JoinedTies
import Derived.KernelRfl
namespace Go.Proofs.Ythmnkmomgaamlaa
/- THE CELL 'sum', in the pinned program and in every row, IS THE sha256 OF THE DUMP (.gsa) THAT YthmnkmomgaamlaaProg.lean LOADS. Nothing in Lean hashes anything: it is a label: what it is worth is what the hold of that sum in a sandbox is worth. -/
noncomputable def Try.pinned : Pinned := { name := "ythmnkmomgaamlaa", sum := "eedea1522e850d90ffe256316c115eef1d1f202bc6ca4e3172392c16ddc03b4a", checked := Try.checked }
namespace Rows
def none {H : Type} : Left H := { results := [], args := [] }

/-- 'tonneaulaw15.LagsTells': WHATEVER THE INPUT: true; the input reads as it did. -/
def lagsTellsSpec : ChangeSpec := { name := "lagsTells", fn := fun _ => fun
  | [d1, d2, d3, d4, d5] => { results := [.lit (.bool true)], args := [d1, d2, d3, d4, d5] }
  | _ => none }
def lagsTellsRow : OpenClaim := { program := "ythmnkmomgaamlaa", sum := "eedea1522e850d90ffe256316c115eef1d1f202bc6ca4e3172392c16ddc03b4a", func := "tonneau/tonneaulaw15.LagsTells", spec := "lagsTells", apart := false }
def LagsTellsSaid : Prop := lagsTellsRow.holds Try.pinned (OpenSpec.ofChange lagsTellsSpec)

/-- ITS FALSE NEIGHBOUR: 'it returns false'. Refute it at one input. -/
def lagsTellsWrong : ChangeSpec := { name := "lagsTells", fn := fun _ => fun
  | [d1, d2, d3, d4, d5] => { results := [.lit (.bool false)], args := [d1, d2, d3, d4, d5] }
  | _ => none }
def LagsTellsWrongFalsely : Prop := lagsTellsRow.holds Try.pinned (OpenSpec.ofChange lagsTellsWrong)

/-- 'tonneaulaw15.LagsEither': WHATEVER THE INPUT: true; the input reads as it did. -/
def lagsEitherSpec : ChangeSpec := { name := "lagsEither", fn := fun _ => fun
  | [d1, d2, d3, d4] => { results := [.lit (.bool true)], args := [d1, d2, d3, d4] }
  | _ => none }
def lagsEitherRow : OpenClaim := { program := "ythmnkmomgaamlaa", sum := "eedea1522e850d90ffe256316c115eef1d1f202bc6ca4e3172392c16ddc03b4a", func := "tonneau/tonneaulaw15.LagsEither", spec := "lagsEither", apart := false }
def LagsEitherSaid : Prop := lagsEitherRow.holds Try.pinned (OpenSpec.ofChange lagsEitherSpec)

/-- ITS FALSE NEIGHBOUR: 'it returns false'. Refute it at one input. -/
def lagsEitherWrong : ChangeSpec := { name := "lagsEither", fn := fun _ => fun
  | [d1, d2, d3, d4] => { results := [.lit (.bool false)], args := [d1, d2, d3, d4] }
  | _ => none }
def LagsEitherWrongFalsely : Prop := lagsEitherRow.holds Try.pinned (OpenSpec.ofChange lagsEitherWrong)

/-- 'tonneaulaw15.LagsLatest': WHATEVER THE INPUT: true; the input reads as it did. -/
def lagsLatestSpec : ChangeSpec := { name := "lagsLatest", fn := fun _ => fun
  | [d1, d2, d3, d4] => { results := [.lit (.bool true)], args := [d1, d2, d3, d4] }
  | _ => none }
def lagsLatestRow : OpenClaim := { program := "ythmnkmomgaamlaa", sum := "eedea1522e850d90ffe256316c115eef1d1f202bc6ca4e3172392c16ddc03b4a", func := "tonneau/tonneaulaw15.LagsLatest", spec := "lagsLatest", apart := false }
def LagsLatestSaid : Prop := lagsLatestRow.holds Try.pinned (OpenSpec.ofChange lagsLatestSpec)

/-- ITS FALSE NEIGHBOUR: 'it returns false'. Refute it at one input. -/
def lagsLatestWrong : ChangeSpec := { name := "lagsLatest", fn := fun _ => fun
  | [d1, d2, d3, d4] => { results := [.lit (.bool false)], args := [d1, d2, d3, d4] }
  | _ => none }
def LagsLatestWrongFalsely : Prop := lagsLatestRow.holds Try.pinned (OpenSpec.ofChange lagsLatestWrong)

/-- 'tonneaulaw15.LagsBetween': WHATEVER THE INPUT: true; the input reads as it did. -/
def lagsBetweenSpec : ChangeSpec := { name := "lagsBetween", fn := fun _ => fun
  | [d1, d2, d3, d4] => { results := [.lit (.bool true)], args := [d1, d2, d3, d4] }
  | _ => none }
def lagsBetweenRow : OpenClaim := { program := "ythmnkmomgaamlaa", sum := "eedea1522e850d90ffe256316c115eef1d1f202bc6ca4e3172392c16ddc03b4a", func := "tonneau/tonneaulaw15.LagsBetween", spec := "lagsBetween", apart := false }
def LagsBetweenSaid : Prop := lagsBetweenRow.holds Try.pinned (OpenSpec.ofChange lagsBetweenSpec)

/-- ITS FALSE NEIGHBOUR: 'it returns false'. Refute it at one input. -/
def lagsBetweenWrong : ChangeSpec := { name := "lagsBetween", fn := fun _ => fun
  | [d1, d2, d3, d4] => { results := [.lit (.bool false)], args := [d1, d2, d3, d4] }
  | _ => none }
def LagsBetweenWrongFalsely : Prop := lagsBetweenRow.holds Try.pinned (OpenSpec.ofChange lagsBetweenWrong)

/-- 'tonneaulaw15.LagsMore': WHATEVER THE INPUT: true; the input reads as it did. -/
def lagsMoreSpec : ChangeSpec := { name := "lagsMore", fn := fun _ => fun
  | [d1, d2, d3, d4] => { results := [.lit (.bool true)], args := [d1, d2, d3, d4] }
  | _ => none }
def lagsMoreRow : OpenClaim := { program := "ythmnkmomgaamlaa", sum := "eedea1522e850d90ffe256316c115eef1d1f202bc6ca4e3172392c16ddc03b4a", func := "tonneau/tonneaulaw15.LagsMore", spec := "lagsMore", apart := false }
def LagsMoreSaid : Prop := lagsMoreRow.holds Try.pinned (OpenSpec.ofChange lagsMoreSpec)

/-- ITS FALSE NEIGHBOUR: 'it returns false'. Refute it at one input. -/
def lagsMoreWrong : ChangeSpec := { name := "lagsMore", fn := fun _ => fun
  | [d1, d2, d3, d4] => { results := [.lit (.bool false)], args := [d1, d2, d3, d4] }
  | _ => none }
def LagsMoreWrongFalsely : Prop := lagsMoreRow.holds Try.pinned (OpenSpec.ofChange lagsMoreWrong)

/- THE SECOND FORM. 'bulk': how many values and letters a reading holds, each counted each time it is reached (what is shared counts as often as it is met; a slice's spare places count too). A statement '..UptoSaid' is the law's where the arguments, and the package variables that the reading takes, are together of bulk at most 1048576: NARROWER than '..Said'. Prove '..Said' where nothing that the law and all that it calls make is longer than what came in: it says more and counts as full. Else prove '..UptoSaid'. A law counts once. -/
mutual
def uptoBulk {H : Type} : DataW H → Nat
  | .lit (.string bytes) => bytes.length + 1
  | .lit _ => 1
  | .nil => 1
  | .ptr d => uptoBulk d + 1
  | .slice elems spare => uptoBulkAll elems + uptoBulkAll spare + 1
  | .agg parts => uptoBulkAll parts + 1
  | .iface _ d => uptoBulk d + 1
  | .map entries => uptoBulkEntries entries + 1
  | .held _ => 1
def uptoBulkAll {H : Type} : List (DataW H) → Nat
  | [] => 0
  | d :: r => uptoBulk d + uptoBulkAll r
def uptoBulkEntries {H : Type} : List (Lit × DataW H) → Nat
  | [] => 0
  | x :: r => uptoBulkEntry x + uptoBulkEntries r
def uptoBulkEntry {H : Type} : Lit × DataW H → Nat
  | (.string bytes, d) => bytes.length + uptoBulk d + 1
  | (_, d) => uptoBulk d + 1
 end
def uptoSmall : (H : Type) → List (DataW H) → Bool := fun _ ds => decide (uptoBulkAll ds ≤ 1048576)
def OpenSpec.upto (s : _root_.Go.ChangeSpec) : _root_.Go.OpenSpec := { _root_.Go.OpenSpec.ofChange s with cond := some uptoSmall }

/-- 'tonneaulaw15.LagsTells', WHERE WHAT IT READS IS OF BULK AT MOST 1048576: true; the input reads as it did. -/
def lagsTellsUptoRow : OpenClaim := { program := "ythmnkmomgaamlaa", sum := "eedea1522e850d90ffe256316c115eef1d1f202bc6ca4e3172392c16ddc03b4a", func := "tonneau/tonneaulaw15.LagsTells", spec := "lagsTells", apart := false, narrowed := true }
def LagsTellsUptoSaid : Prop := lagsTellsUptoRow.holds Try.pinned (OpenSpec.upto lagsTellsSpec)

/-- 'tonneaulaw15.LagsEither', WHERE WHAT IT READS IS OF BULK AT MOST 1048576: true; the input reads as it did. -/
def lagsEitherUptoRow : OpenClaim := { program := "ythmnkmomgaamlaa", sum := "eedea1522e850d90ffe256316c115eef1d1f202bc6ca4e3172392c16ddc03b4a", func := "tonneau/tonneaulaw15.LagsEither", spec := "lagsEither", apart := false, narrowed := true }
def LagsEitherUptoSaid : Prop := lagsEitherUptoRow.holds Try.pinned (OpenSpec.upto lagsEitherSpec)

/-- 'tonneaulaw15.LagsLatest', WHERE WHAT IT READS IS OF BULK AT MOST 1048576: true; the input reads as it did. -/
def lagsLatestUptoRow : OpenClaim := { program := "ythmnkmomgaamlaa", sum := "eedea1522e850d90ffe256316c115eef1d1f202bc6ca4e3172392c16ddc03b4a", func := "tonneau/tonneaulaw15.LagsLatest", spec := "lagsLatest", apart := false, narrowed := true }
def LagsLatestUptoSaid : Prop := lagsLatestUptoRow.holds Try.pinned (OpenSpec.upto lagsLatestSpec)

/-- 'tonneaulaw15.LagsBetween', WHERE WHAT IT READS IS OF BULK AT MOST 1048576: true; the input reads as it did. -/
def lagsBetweenUptoRow : OpenClaim := { program := "ythmnkmomgaamlaa", sum := "eedea1522e850d90ffe256316c115eef1d1f202bc6ca4e3172392c16ddc03b4a", func := "tonneau/tonneaulaw15.LagsBetween", spec := "lagsBetween", apart := false, narrowed := true }
def LagsBetweenUptoSaid : Prop := lagsBetweenUptoRow.holds Try.pinned (OpenSpec.upto lagsBetweenSpec)

/-- 'tonneaulaw15.LagsMore', WHERE WHAT IT READS IS OF BULK AT MOST 1048576: true; the input reads as it did. -/
def lagsMoreUptoRow : OpenClaim := { program := "ythmnkmomgaamlaa", sum := "eedea1522e850d90ffe256316c115eef1d1f202bc6ca4e3172392c16ddc03b4a", func := "tonneau/tonneaulaw15.LagsMore", spec := "lagsMore", apart := false, narrowed := true }
def LagsMoreUptoSaid : Prop := lagsMoreUptoRow.holds Try.pinned (OpenSpec.upto lagsMoreSpec)

end Rows
end Go.Proofs.Ythmnkmomgaamlaa
