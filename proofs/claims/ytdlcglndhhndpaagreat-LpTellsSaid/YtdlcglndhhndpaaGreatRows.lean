/-
  No cell of these rows narrows 'for every input' (looked for: loops, veiled, ifaces, maps, wideKeys, modest, calm, conditions, laid).
  DERIVED. THE GIVEN ROWS OF THIS SEAT. 3 by the template 'for every input the law returns true; each argument reads behind the call as it read before'; 0 by the template 'total and deterministic' (their statements: YtdlcglndhhndpaaGreatTotals.lean).
  GIVEN WITH THE SEED: the statements are not yours to turn. If you find one false, say at which input.
  Laid BY PROGRAM, IN A SANDBOX (cutbox-rows.mjs): the forced cells as the released guide's own fill.sh prints them over the translation 2bb89c91c042a404… (all of the seat's roots in one cut). By AI agents, Wed Nov 11 2026. No macro, syntax, notation, axiom, sorry.
-/
import Derived.Test.YtdlcglndhhndpaaGreatChecked
import GoSem.Claim
import GoSem.ClaimJoined
import GoSem.ClaimMapViews
import Derived.JoinedTies
import Derived.KernelRfl
namespace Go.Proofs.YtdlcglndhhndpaaGreat
/- THE CELL 'sum', in the pinned program and in every row, IS THE sha256 OF THE DUMP (.gsa) THAT YtdlcglndhhndpaaGreatProg.lean LOADS. Nothing in Lean hashes anything: it is a label: what it is worth is what the hold of that sum in a sandbox is worth. -/
noncomputable def Tryz.pinned : Pinned := { name := "ytdlcglndhhndpaagreat", sum := "2bb89c91c042a404123ad99ad457ee2292d02731b21f971d7a72ff3f61747f5d", checked := Tryz.checked }
namespace Rows
def none {H : Type} : Left H := { results := [], args := [] }

/-- 'tonneaulaw06.LinearTells': WHATEVER THE INPUT: true; the input reads as it did. -/
def linearTellsSpec : ChangeSpec := { name := "linearTells", fn := fun _ => fun
  | [d1, d2, d3] => { results := [.lit (.bool true)], args := [d1, d2, d3] }
  | _ => none }
def linearTellsRow : OpenClaim := { program := "ytdlcglndhhndpaagreat", sum := "2bb89c91c042a404123ad99ad457ee2292d02731b21f971d7a72ff3f61747f5d", func := "tonneau/tonneaulaw06.LinearTells", spec := "linearTells", unfollowed := true, recurses := true, apart := false }
def LinearTellsSaid : Prop := linearTellsRow.holds Tryz.pinned (OpenSpec.ofChange linearTellsSpec)

/-- ITS FALSE NEIGHBOUR: 'it returns false'. Refute it at one input. -/
def linearTellsWrong : ChangeSpec := { name := "linearTells", fn := fun _ => fun
  | [d1, d2, d3] => { results := [.lit (.bool false)], args := [d1, d2, d3] }
  | _ => none }
def LinearTellsWrongFalsely : Prop := linearTellsRow.holds Tryz.pinned (OpenSpec.ofChange linearTellsWrong)

/-- 'tonneaulaw09.LpTells': WHATEVER THE INPUT: true; the input reads as it did. -/
def lpTellsSpec : ChangeSpec := { name := "lpTells", fn := fun _ => fun
  | [d1, d2, d3, d4] => { results := [.lit (.bool true)], args := [d1, d2, d3, d4] }
  | _ => none }
def lpTellsRow : OpenClaim := { program := "ytdlcglndhhndpaagreat", sum := "2bb89c91c042a404123ad99ad457ee2292d02731b21f971d7a72ff3f61747f5d", func := "tonneau/tonneaulaw09.LpTells", spec := "lpTells", unfollowed := true, recurses := true, apart := false }
def LpTellsSaid : Prop := lpTellsRow.holds Tryz.pinned (OpenSpec.ofChange lpTellsSpec)

/-- ITS FALSE NEIGHBOUR: 'it returns false'. Refute it at one input. -/
def lpTellsWrong : ChangeSpec := { name := "lpTells", fn := fun _ => fun
  | [d1, d2, d3, d4] => { results := [.lit (.bool false)], args := [d1, d2, d3, d4] }
  | _ => none }
def LpTellsWrongFalsely : Prop := lpTellsRow.holds Tryz.pinned (OpenSpec.ofChange lpTellsWrong)

/-- 'tonneaulaw09.LpProves': WHATEVER THE INPUT: true; the input reads as it did. -/
def lpProvesSpec : ChangeSpec := { name := "lpProves", fn := fun _ => fun
  | [d1, d2] => { results := [.lit (.bool true)], args := [d1, d2] }
  | _ => none }
def lpProvesRow : OpenClaim := { program := "ytdlcglndhhndpaagreat", sum := "2bb89c91c042a404123ad99ad457ee2292d02731b21f971d7a72ff3f61747f5d", func := "tonneau/tonneaulaw09.LpProves", spec := "lpProves", unfollowed := true, recurses := true, apart := false }
def LpProvesSaid : Prop := lpProvesRow.holds Tryz.pinned (OpenSpec.ofChange lpProvesSpec)

/-- ITS FALSE NEIGHBOUR: 'it returns false'. Refute it at one input. -/
def lpProvesWrong : ChangeSpec := { name := "lpProves", fn := fun _ => fun
  | [d1, d2] => { results := [.lit (.bool false)], args := [d1, d2] }
  | _ => none }
def LpProvesWrongFalsely : Prop := lpProvesRow.holds Tryz.pinned (OpenSpec.ofChange lpProvesWrong)

/- THE SECOND FORM. 'bulk': how many values and letters a reading holds, each counted each time it is reached (what is shared counts as often as it is met; a slice's spare places count too). A statement '..UptoSaid' is the law's where the arguments, and the package variables that the reading takes, are together of bulk at most 1048576: NARROWER than '..Said'. Prove '..Said' where nothing that the law and all that it calls make is longer than what came in: it says more and counts as full. Else prove '..UptoSaid'. A law counts once. -/
mutual
def uptoBulk {H : Type} : DataW H → Nat
  | .lit (.string bytes) => bytes.length + 1
  | .lit _ => 1
  | .nil => 1
  | .ptr d => uptoBulk d + 1
  | .slice elems spare => uptoBulkAll elems + uptoBulkAll spare + 1
  | .agg parts => uptoBulkAll parts + 1
  | .iface _ d => uptoBulk d + 1
  | .map entries => uptoBulkEntries entries + 1
  | .held _ => 1
def uptoBulkAll {H : Type} : List (DataW H) → Nat
  | [] => 0
  | d :: r => uptoBulk d + uptoBulkAll r
def uptoBulkEntries {H : Type} : List (Lit × DataW H) → Nat
  | [] => 0
  | x :: r => uptoBulkEntry x + uptoBulkEntries r
def uptoBulkEntry {H : Type} : Lit × DataW H → Nat
  | (.string bytes, d) => bytes.length + uptoBulk d + 1
  | (_, d) => uptoBulk d + 1
 end
def uptoSmall : (H : Type) → List (DataW H) → Bool := fun _ ds => decide (uptoBulkAll ds ≤ 1048576)
def OpenSpec.upto (s : _root_.Go.ChangeSpec) : _root_.Go.OpenSpec := { _root_.Go.OpenSpec.ofChange s with cond := some uptoSmall }

/-- 'tonneaulaw06.LinearTells', WHERE WHAT IT READS IS OF BULK AT MOST 1048576: true; the input reads as it did. -/
def linearTellsUptoRow : OpenClaim := { program := "ytdlcglndhhndpaagreat", sum := "2bb89c91c042a404123ad99ad457ee2292d02731b21f971d7a72ff3f61747f5d", func := "tonneau/tonneaulaw06.LinearTells", spec := "linearTells", unfollowed := true, recurses := true, apart := false, narrowed := true }
def LinearTellsUptoSaid : Prop := linearTellsUptoRow.holds Tryz.pinned (OpenSpec.upto linearTellsSpec)

/-- 'tonneaulaw09.LpTells', WHERE WHAT IT READS IS OF BULK AT MOST 1048576: true; the input reads as it did. -/
def lpTellsUptoRow : OpenClaim := { program := "ytdlcglndhhndpaagreat", sum := "2bb89c91c042a404123ad99ad457ee2292d02731b21f971d7a72ff3f61747f5d", func := "tonneau/tonneaulaw09.LpTells", spec := "lpTells", unfollowed := true, recurses := true, apart := false, narrowed := true }
def LpTellsUptoSaid : Prop := lpTellsUptoRow.holds Tryz.pinned (OpenSpec.upto lpTellsSpec)

/-- 'tonneaulaw09.LpProves', WHERE WHAT IT READS IS OF BULK AT MOST 1048576: true; the input reads as it did. -/
def lpProvesUptoRow : OpenClaim := { program := "ytdlcglndhhndpaagreat", sum := "2bb89c91c042a404123ad99ad457ee2292d02731b21f971d7a72ff3f61747f5d", func := "tonneau/tonneaulaw09.LpProves", spec := "lpProves", unfollowed := true, recurses := true, apart := false, narrowed := true }
def LpProvesUptoSaid : Prop := lpProvesUptoRow.holds Tryz.pinned (OpenSpec.upto lpProvesSpec)

end Rows
end Go.Proofs.YtdlcglndhhndpaaGreat
