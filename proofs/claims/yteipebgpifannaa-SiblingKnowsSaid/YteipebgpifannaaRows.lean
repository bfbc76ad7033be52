/-
  No cell of these rows narrows 'for every input' (looked for: loops, veiled, ifaces, maps, wideKeys, modest, calm, conditions, laid).
  DERIVED. THE GIVEN ROWS OF THIS SEAT. 6 by the template 'for every input the law returns true; each argument reads behind the call as it read before'; 0 by the template 'total and deterministic' (their statements: YteipebgpifannaaTotals.lean).
  GIVEN WITH THE SEED: the statements are not yours to turn. If you find one false, say at which input.
  Laid BY PROGRAM, IN A SANDBOX (cutbox-rows.mjs): the forced cells as the released guide's own fill.sh prints them over the translation 22edfcad85cf7df0… (all of the seat's roots in one cut). By AI agents, Wed Nov 11 2026. No macro, syntax, notation, axiom, sorry.
-/
import Derived.Test.YteipebgpifannaaChecked
import GoSem.Claim
import GoSem.ClaimJoined
import GoSem.ClaimMapViews
import Derived.JoinedTies
import Derived.KernelRfl
namespace Go.Proofs.Yteipebgpifannaa
/- THE CELL 'sum', in the pinned program and in every row, IS THE sha256 OF THE DUMP (.gsa) THAT YteipebgpifannaaProg.lean LOADS. Nothing in Lean hashes anything: it is a label: what it is worth is what the hold of that sum in a sandbox is worth. -/
noncomputable def Try.pinned : Pinned := { name := "yteipebgpifannaa", sum := "22edfcad85cf7df07186abe81a9c3d7010171de3230d86233e9e7f55181b615d", checked := Try.checked }
namespace Rows
def none {H : Type} : Left H := { results := [], args := [] }

/-- 'revertlaw06.SiblingRing': WHATEVER THE INPUT: true; the input reads as it did. -/
def siblingRingSpec : ChangeSpec := { name := "siblingRing", fn := fun _ => fun
  | [d1, d2, d3] => { results := [.lit (.bool true)], args := [d1, d2, d3] }
  | _ => none }
def siblingRingRow : OpenClaim := { program := "yteipebgpifannaa", sum := "22edfcad85cf7df07186abe81a9c3d7010171de3230d86233e9e7f55181b615d", func := "revert/revertlaw06.SiblingRing", spec := "siblingRing", unfollowed := true, recurses := true, apart := false }
def SiblingRingSaid : Prop := siblingRingRow.holds Try.pinned (OpenSpec.ofChange siblingRingSpec)

/-- ITS FALSE NEIGHBOUR: 'it returns false'. Refute it at one input. -/
def siblingRingWrong : ChangeSpec := { name := "siblingRing", fn := fun _ => fun
  | [d1, d2, d3] => { results := [.lit (.bool false)], args := [d1, d2, d3] }
  | _ => none }
def SiblingRingWrongFalsely : Prop := siblingRingRow.holds Try.pinned (OpenSpec.ofChange siblingRingWrong)

/-- 'revertlaw06.SiblingWrites': WHATEVER THE INPUT: true; the input reads as it did. -/
def siblingWritesSpec : ChangeSpec := { name := "siblingWrites", fn := fun _ => fun
  | [d1, d2, d3] => { results := [.lit (.bool true)], args := [d1, d2, d3] }
  | _ => none }
def siblingWritesRow : OpenClaim := { program := "yteipebgpifannaa", sum := "22edfcad85cf7df07186abe81a9c3d7010171de3230d86233e9e7f55181b615d", func := "revert/revertlaw06.SiblingWrites", spec := "siblingWrites", unfollowed := true, recurses := true, apart := false }
def SiblingWritesSaid : Prop := siblingWritesRow.holds Try.pinned (OpenSpec.ofChange siblingWritesSpec)

/-- ITS FALSE NEIGHBOUR: 'it returns false'. Refute it at one input. -/
def siblingWritesWrong : ChangeSpec := { name := "siblingWrites", fn := fun _ => fun
  | [d1, d2, d3] => { results := [.lit (.bool false)], args := [d1, d2, d3] }
  | _ => none }
def SiblingWritesWrongFalsely : Prop := siblingWritesRow.holds Try.pinned (OpenSpec.ofChange siblingWritesWrong)

/-- 'revertlaw06.SiblingKnows': WHATEVER THE INPUT: true; the input reads as it did. -/
def siblingKnowsSpec : ChangeSpec := { name := "siblingKnows", fn := fun _ => fun
  | [d] => { results := [.lit (.bool true)], args := [d] }
  | _ => none }
def siblingKnowsRow : OpenClaim := { program := "yteipebgpifannaa", sum := "22edfcad85cf7df07186abe81a9c3d7010171de3230d86233e9e7f55181b615d", func := "revert/revertlaw06.SiblingKnows", spec := "siblingKnows", unfollowed := true, recurses := true, apart := false }
def SiblingKnowsSaid : Prop := siblingKnowsRow.holds Try.pinned (OpenSpec.ofChange siblingKnowsSpec)

/-- ITS FALSE NEIGHBOUR: 'it returns false'. Refute it at one input. -/
def siblingKnowsWrong : ChangeSpec := { name := "siblingKnows", fn := fun _ => fun
  | [d] => { results := [.lit (.bool false)], args := [d] }
  | _ => none }
def SiblingKnowsWrongFalsely : Prop := siblingKnowsRow.holds Try.pinned (OpenSpec.ofChange siblingKnowsWrong)

/-- 'revertlaw06.SiblingSame': WHATEVER THE INPUT: true; the input reads as it did. -/
def siblingSameSpec : ChangeSpec := { name := "siblingSame", fn := fun _ => fun
  | [d] => { results := [.lit (.bool true)], args := [d] }
  | _ => none }
def siblingSameRow : OpenClaim := { program := "yteipebgpifannaa", sum := "22edfcad85cf7df07186abe81a9c3d7010171de3230d86233e9e7f55181b615d", func := "revert/revertlaw06.SiblingSame", spec := "siblingSame", unfollowed := true, recurses := true, apart := false }
def SiblingSameSaid : Prop := siblingSameRow.holds Try.pinned (OpenSpec.ofChange siblingSameSpec)

/-- ITS FALSE NEIGHBOUR: 'it returns false'. Refute it at one input. -/
def siblingSameWrong : ChangeSpec := { name := "siblingSame", fn := fun _ => fun
  | [d] => { results := [.lit (.bool false)], args := [d] }
  | _ => none }
def SiblingSameWrongFalsely : Prop := siblingSameRow.holds Try.pinned (OpenSpec.ofChange siblingSameWrong)

/-- 'revertlaw06.SiblingKnown': WHATEVER THE INPUT: true; the input reads as it did. -/
def siblingKnownSpec : ChangeSpec := { name := "siblingKnown", fn := fun _ => fun
  | [] => { results := [.lit (.bool true)], args := [] }
  | _ => none }
def siblingKnownRow : OpenClaim := { program := "yteipebgpifannaa", sum := "22edfcad85cf7df07186abe81a9c3d7010171de3230d86233e9e7f55181b615d", func := "revert/revertlaw06.SiblingKnown", spec := "siblingKnown", unfollowed := true, recurses := true, apart := false }
def SiblingKnownSaid : Prop := siblingKnownRow.holds Try.pinned (OpenSpec.ofChange siblingKnownSpec)

/-- ITS FALSE NEIGHBOUR: 'it returns false'. Refute it at one input. -/
def siblingKnownWrong : ChangeSpec := { name := "siblingKnown", fn := fun _ => fun
  | [] => { results := [.lit (.bool false)], args := [] }
  | _ => none }
def SiblingKnownWrongFalsely : Prop := siblingKnownRow.holds Try.pinned (OpenSpec.ofChange siblingKnownWrong)

/-- 'revertlaw06.SiblingJoins': WHATEVER THE INPUT: true; the input reads as it did. -/
def siblingJoinsSpec : ChangeSpec := { name := "siblingJoins", fn := fun _ => fun
  | [d1, d2] => { results := [.lit (.bool true)], args := [d1, d2] }
  | _ => none }
def siblingJoinsRow : OpenClaim := { program := "yteipebgpifannaa", sum := "22edfcad85cf7df07186abe81a9c3d7010171de3230d86233e9e7f55181b615d", func := "revert/revertlaw06.SiblingJoins", spec := "siblingJoins", unfollowed := true, recurses := true, apart := false }
def SiblingJoinsSaid : Prop := siblingJoinsRow.holds Try.pinned (OpenSpec.ofChange siblingJoinsSpec)

/-- ITS FALSE NEIGHBOUR: 'it returns false'. Refute it at one input. -/
def siblingJoinsWrong : ChangeSpec := { name := "siblingJoins", fn := fun _ => fun
  | [d1, d2] => { results := [.lit (.bool false)], args := [d1, d2] }
  | _ => none }
def SiblingJoinsWrongFalsely : Prop := siblingJoinsRow.holds Try.pinned (OpenSpec.ofChange siblingJoinsWrong)

/- THE SECOND FORM. 'bulk': how many values and letters a reading holds, each counted each time it is reached (what is shared counts as often as it is met; a slice's spare places count too). A statement '..UptoSaid' is the law's where the arguments, and the package variables that the reading takes, are together of bulk at most 1048576: NARROWER than '..Said'. Prove '..Said' where nothing that the law and all that it calls make is longer than what came in: it says more and counts as full. Else prove '..UptoSaid'. A law counts once. -/
mutual
def uptoBulk {H : Type} : DataW H → Nat
  | .lit (.string bytes) => bytes.length + 1
  | .lit _ => 1
  | .nil => 1
  | .ptr d => uptoBulk d + 1
  | .slice elems spare => uptoBulkAll elems + uptoBulkAll spare + 1
  | .agg parts => uptoBulkAll parts + 1
  | .iface _ d => uptoBulk d + 1
  | .map entries => uptoBulkEntries entries + 1
  | .held _ => 1
def uptoBulkAll {H : Type} : List (DataW H) → Nat
  | [] => 0
  | d :: r => uptoBulk d + uptoBulkAll r
def uptoBulkEntries {H : Type} : List (Lit × DataW H) → Nat
  | [] => 0
  | x :: r => uptoBulkEntry x + uptoBulkEntries r
def uptoBulkEntry {H : Type} : Lit × DataW H → Nat
  | (.string bytes, d) => bytes.length + uptoBulk d + 1
  | (_, d) => uptoBulk d + 1
 end
def uptoSmall : (H : Type) → List (DataW H) → Bool := fun _ ds => decide (uptoBulkAll ds ≤ 1048576)
def OpenSpec.upto (s : _root_.Go.ChangeSpec) : _root_.Go.OpenSpec := { _root_.Go.OpenSpec.ofChange s with cond := some uptoSmall }

/-- 'revertlaw06.SiblingRing', WHERE WHAT IT READS IS OF BULK AT MOST 1048576: true; the input reads as it did. -/
def siblingRingUptoRow : OpenClaim := { program := "yteipebgpifannaa", sum := "22edfcad85cf7df07186abe81a9c3d7010171de3230d86233e9e7f55181b615d", func := "revert/revertlaw06.SiblingRing", spec := "siblingRing", unfollowed := true, recurses := true, apart := false, narrowed := true }
def SiblingRingUptoSaid : Prop := siblingRingUptoRow.holds Try.pinned (OpenSpec.upto siblingRingSpec)

/-- 'revertlaw06.SiblingWrites', WHERE WHAT IT READS IS OF BULK AT MOST 1048576: true; the input reads as it did. -/
def siblingWritesUptoRow : OpenClaim := { program := "yteipebgpifannaa", sum := "22edfcad85cf7df07186abe81a9c3d7010171de3230d86233e9e7f55181b615d", func := "revert/revertlaw06.SiblingWrites", spec := "siblingWrites", unfollowed := true, recurses := true, apart := false, narrowed := true }
def SiblingWritesUptoSaid : Prop := siblingWritesUptoRow.holds Try.pinned (OpenSpec.upto siblingWritesSpec)

/-- 'revertlaw06.SiblingKnows', WHERE WHAT IT READS IS OF BULK AT MOST 1048576: true; the input reads as it did. -/
def siblingKnowsUptoRow : OpenClaim := { program := "yteipebgpifannaa", sum := "22edfcad85cf7df07186abe81a9c3d7010171de3230d86233e9e7f55181b615d", func := "revert/revertlaw06.SiblingKnows", spec := "siblingKnows", unfollowed := true, recurses := true, apart := false, narrowed := true }
def SiblingKnowsUptoSaid : Prop := siblingKnowsUptoRow.holds Try.pinned (OpenSpec.upto siblingKnowsSpec)

/-- 'revertlaw06.SiblingSame', WHERE WHAT IT READS IS OF BULK AT MOST 1048576: true; the input reads as it did. -/
def siblingSameUptoRow : OpenClaim := { program := "yteipebgpifannaa", sum := "22edfcad85cf7df07186abe81a9c3d7010171de3230d86233e9e7f55181b615d", func := "revert/revertlaw06.SiblingSame", spec := "siblingSame", unfollowed := true, recurses := true, apart := false, narrowed := true }
def SiblingSameUptoSaid : Prop := siblingSameUptoRow.holds Try.pinned (OpenSpec.upto siblingSameSpec)

/-- 'revertlaw06.SiblingKnown', WHERE WHAT IT READS IS OF BULK AT MOST 1048576: true; the input reads as it did. -/
def siblingKnownUptoRow : OpenClaim := { program := "yteipebgpifannaa", sum := "22edfcad85cf7df07186abe81a9c3d7010171de3230d86233e9e7f55181b615d", func := "revert/revertlaw06.SiblingKnown", spec := "siblingKnown", unfollowed := true, recurses := true, apart := false, narrowed := true }
def SiblingKnownUptoSaid : Prop := siblingKnownUptoRow.holds Try.pinned (OpenSpec.upto siblingKnownSpec)

/-- 'revertlaw06.SiblingJoins', WHERE WHAT IT READS IS OF BULK AT MOST 1048576: true; the input reads as it did. -/
def siblingJoinsUptoRow : OpenClaim := { program := "yteipebgpifannaa", sum := "22edfcad85cf7df07186abe81a9c3d7010171de3230d86233e9e7f55181b615d", func := "revert/revertlaw06.SiblingJoins", spec := "siblingJoins", unfollowed := true, recurses := true, apart := false, narrowed := true }
def SiblingJoinsUptoSaid : Prop := siblingJoinsUptoRow.holds Try.pinned (OpenSpec.upto siblingJoinsSpec)

end Rows
end Go.Proofs.Yteipebgpifannaa
