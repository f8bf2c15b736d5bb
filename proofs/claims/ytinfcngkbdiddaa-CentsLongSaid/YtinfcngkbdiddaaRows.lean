/-
  No cell of these rows narrows 'for every input' (looked for: loops, veiled, ifaces, maps, wideKeys, modest, calm, conditions, laid).
  DERIVED. THE GIVEN ROWS OF THIS SEAT. 4 by the template 'for every input the law returns true; each argument reads behind the call as it read before'; 0 by the template 'total and deterministic' (their statements: YtinfcngkbdiddaaTotals.lean).
  GIVEN WITH THE SEED: the statements are not yours to turn. If you find one false, say at which input.
  Laid BY PROGRAM, IN A SANDBOX (cutbox-rows.mjs): the forced cells as the released guide's own fill.sh prints them over the translation d8d5c590439e701d… (all of the seat's roots in one cut). By AI agents, Wed Nov 11 2026. No macro, syntax, notation, axiom, sorry.
-/
import Derived.Test.YtinfcngkbdiddaaChecked
import GoSem.Claim
import GoSem.ClaimJoined
import GoSem.ClaimMapViews
import Derived.JoinedTies
import Derived.KernelRfl
namespace Go.Proofs.Ytinfcngkbdiddaa
/- THE CELL 'sum', in the pinned program and in every row, IS THE sha256 OF THE DUMP (.gsa) THAT YtinfcngkbdiddaaProg.lean LOADS. Nothing in Lean hashes anything: it is a label: what it is worth is what the hold of that sum in a sandbox is worth. -/
noncomputable def Try.pinned : Pinned := { name := "ytinfcngkbdiddaa", sum := "d8d5c590439e701d9ffd12c5ef0dddd51bab933f6adb691e1d293e84c6b8168b", checked := Try.checked }
namespace Rows
def none {H : Type} : Left H := { results := [], args := [] }

/-- 'tonneaulaw27.CentsTells': WHATEVER THE INPUT: true; the input reads as it did. -/
def centsTellsSpec : ChangeSpec := { name := "centsTells", fn := fun _ => fun
  | [d1, d2, d3] => { results := [.lit (.bool true)], args := [d1, d2, d3] }
  | _ => none }
def centsTellsRow : OpenClaim := { program := "ytinfcngkbdiddaa", sum := "d8d5c590439e701d9ffd12c5ef0dddd51bab933f6adb691e1d293e84c6b8168b", func := "tonneau/tonneaulaw27.CentsTells", spec := "centsTells", unfollowed := true, recurses := true, apart := false }
def CentsTellsSaid : Prop := centsTellsRow.holds Try.pinned (OpenSpec.ofChange centsTellsSpec)

/-- ITS FALSE NEIGHBOUR: 'it returns false'. Refute it at one input. -/
def centsTellsWrong : ChangeSpec := { name := "centsTells", fn := fun _ => fun
  | [d1, d2, d3] => { results := [.lit (.bool false)], args := [d1, d2, d3] }
  | _ => none }
def CentsTellsWrongFalsely : Prop := centsTellsRow.holds Try.pinned (OpenSpec.ofChange centsTellsWrong)

/-- 'tonneaulaw27.CentsExact': WHATEVER THE INPUT: true; the input reads as it did. -/
def centsExactSpec : ChangeSpec := { name := "centsExact", fn := fun _ => fun
  | [d1, d2, d3] => { results := [.lit (.bool true)], args := [d1, d2, d3] }
  | _ => none }
def centsExactRow : OpenClaim := { program := "ytinfcngkbdiddaa", sum := "d8d5c590439e701d9ffd12c5ef0dddd51bab933f6adb691e1d293e84c6b8168b", func := "tonneau/tonneaulaw27.CentsExact", spec := "centsExact", unfollowed := true, recurses := true, apart := false }
def CentsExactSaid : Prop := centsExactRow.holds Try.pinned (OpenSpec.ofChange centsExactSpec)

/-- ITS FALSE NEIGHBOUR: 'it returns false'. Refute it at one input. -/
def centsExactWrong : ChangeSpec := { name := "centsExact", fn := fun _ => fun
  | [d1, d2, d3] => { results := [.lit (.bool false)], args := [d1, d2, d3] }
  | _ => none }
def CentsExactWrongFalsely : Prop := centsExactRow.holds Try.pinned (OpenSpec.ofChange centsExactWrong)

/-- 'tonneaulaw27.CentsLong': WHATEVER THE INPUT: true; the input reads as it did. -/
def centsLongSpec : ChangeSpec := { name := "centsLong", fn := fun _ => fun
  | [d1, d2] => { results := [.lit (.bool true)], args := [d1, d2] }
  | _ => none }
def centsLongRow : OpenClaim := { program := "ytinfcngkbdiddaa", sum := "d8d5c590439e701d9ffd12c5ef0dddd51bab933f6adb691e1d293e84c6b8168b", func := "tonneau/tonneaulaw27.CentsLong", spec := "centsLong", unfollowed := true, recurses := true, apart := false }
def CentsLongSaid : Prop := centsLongRow.holds Try.pinned (OpenSpec.ofChange centsLongSpec)

/-- ITS FALSE NEIGHBOUR: 'it returns false'. Refute it at one input. -/
def centsLongWrong : ChangeSpec := { name := "centsLong", fn := fun _ => fun
  | [d1, d2] => { results := [.lit (.bool false)], args := [d1, d2] }
  | _ => none }
def CentsLongWrongFalsely : Prop := centsLongRow.holds Try.pinned (OpenSpec.ofChange centsLongWrong)

/-- 'tonneaulaw27.CentsWhole': WHATEVER THE INPUT: true; the input reads as it did. -/
def centsWholeSpec : ChangeSpec := { name := "centsWhole", fn := fun _ => fun
  | [d1, d2] => { results := [.lit (.bool true)], args := [d1, d2] }
  | _ => none }
def centsWholeRow : OpenClaim := { program := "ytinfcngkbdiddaa", sum := "d8d5c590439e701d9ffd12c5ef0dddd51bab933f6adb691e1d293e84c6b8168b", func := "tonneau/tonneaulaw27.CentsWhole", spec := "centsWhole", unfollowed := true, recurses := true, apart := false }
def CentsWholeSaid : Prop := centsWholeRow.holds Try.pinned (OpenSpec.ofChange centsWholeSpec)

/-- ITS FALSE NEIGHBOUR: 'it returns false'. Refute it at one input. -/
def centsWholeWrong : ChangeSpec := { name := "centsWhole", fn := fun _ => fun
  | [d1, d2] => { results := [.lit (.bool false)], args := [d1, d2] }
  | _ => none }
def CentsWholeWrongFalsely : Prop := centsWholeRow.holds Try.pinned (OpenSpec.ofChange centsWholeWrong)

/- THE SECOND FORM. 'bulk': how many values and letters a reading holds, each counted each time it is reached (what is shared counts as often as it is met; a slice's spare places count too). A statement '..UptoSaid' is the law's where the arguments, and the package variables that the reading takes, are together of bulk at most 1048576: NARROWER than '..Said'. Prove '..Said' where nothing that the law and all that it calls make is longer than what came in: it says more and counts as full. Else prove '..UptoSaid'. A law counts once. -/
mutual
def uptoBulk {H : Type} : DataW H → Nat
  | .lit (.string bytes) => bytes.length + 1
  | .lit _ => 1
  | .nil => 1
  | .ptr d => uptoBulk d + 1
  | .slice elems spare => uptoBulkAll elems + uptoBulkAll spare + 1
  | .agg parts => uptoBulkAll parts + 1
  | .iface _ d => uptoBulk d + 1
  | .map entries => uptoBulkEntries entries + 1
  | .held _ => 1
def uptoBulkAll {H : Type} : List (DataW H) → Nat
  | [] => 0
  | d :: r => uptoBulk d + uptoBulkAll r
def uptoBulkEntries {H : Type} : List (Lit × DataW H) → Nat
  | [] => 0
  | x :: r => uptoBulkEntry x + uptoBulkEntries r
def uptoBulkEntry {H : Type} : Lit × DataW H → Nat
  | (.string bytes, d) => bytes.length + uptoBulk d + 1
  | (_, d) => uptoBulk d + 1
 end
def uptoSmall : (H : Type) → List (DataW H) → Bool := fun _ ds => decide (uptoBulkAll ds ≤ 1048576)
def OpenSpec.upto (s : _root_.Go.ChangeSpec) : _root_.Go.OpenSpec := { _root_.Go.OpenSpec.ofChange s with cond := some uptoSmall }

/-- 'tonneaulaw27.CentsTells', WHERE WHAT IT READS IS OF BULK AT MOST 1048576: true; the input reads as it did. -/
def centsTellsUptoRow : OpenClaim := { program := "ytinfcngkbdiddaa", sum := "d8d5c590439e701d9ffd12c5ef0dddd51bab933f6adb691e1d293e84c6b8168b", func := "tonneau/tonneaulaw27.CentsTells", spec := "centsTells", unfollowed := true, recurses := true, apart := false, narrowed := true }
def CentsTellsUptoSaid : Prop := centsTellsUptoRow.holds Try.pinned (OpenSpec.upto centsTellsSpec)

/-- 'tonneaulaw27.CentsExact', WHERE WHAT IT READS IS OF BULK AT MOST 1048576: true; the input reads as it did. -/
def centsExactUptoRow : OpenClaim := { program := "ytinfcngkbdiddaa", sum := "d8d5c590439e701d9ffd12c5ef0dddd51bab933f6adb691e1d293e84c6b8168b", func := "tonneau/tonneaulaw27.CentsExact", spec := "centsExact", unfollowed := true, recurses := true, apart := false, narrowed := true }
def CentsExactUptoSaid : Prop := centsExactUptoRow.holds Try.pinned (OpenSpec.upto centsExactSpec)

/-- 'tonneaulaw27.CentsLong', WHERE WHAT IT READS IS OF BULK AT MOST 1048576: true; the input reads as it did. -/
def centsLongUptoRow : OpenClaim := { program := "ytinfcngkbdiddaa", sum := "d8d5c590439e701d9ffd12c5ef0dddd51bab933f6adb691e1d293e84c6b8168b", func := "tonneau/tonneaulaw27.CentsLong", spec := "centsLong", unfollowed := true, recurses := true, apart := false, narrowed := true }
def CentsLongUptoSaid : Prop := centsLongUptoRow.holds Try.pinned (OpenSpec.upto centsLongSpec)

/-- 'tonneaulaw27.CentsWhole', WHERE WHAT IT READS IS OF BULK AT MOST 1048576: true; the input reads as it did. -/
def centsWholeUptoRow : OpenClaim := { program := "ytinfcngkbdiddaa", sum := "d8d5c590439e701d9ffd12c5ef0dddd51bab933f6adb691e1d293e84c6b8168b", func := "tonneau/tonneaulaw27.CentsWhole", spec := "centsWhole", unfollowed := true, recurses := true, apart := false, narrowed := true }
def CentsWholeUptoSaid : Prop := centsWholeUptoRow.holds Try.pinned (OpenSpec.upto centsWholeSpec)

end Rows
end Go.Proofs.Ytinfcngkbdiddaa
