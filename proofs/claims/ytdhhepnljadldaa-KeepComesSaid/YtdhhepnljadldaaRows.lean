/-
  No cell of these rows narrows 'for every input' (looked for: loops, veiled, ifaces, maps, wideKeys, modest, calm, conditions, laid).
  DERIVED. THE GIVEN ROWS OF THIS SEAT. 6 by the template 'for every input the law returns true; each argument reads behind the call as it read before'; 0 by the template 'total and deterministic' (their statements: YtdhhepnljadldaaTotals.lean).
  GIVEN WITH THE SEED: the statements are not yours to turn. If you find one false, say at which input.
  Laid BY PROGRAM, IN A SANDBOX (cutbox-rows.mjs): the forced cells as the released guide's own fill.sh prints them over the translation 03c2c77a8e6f88f0… (all of the seat's roots in one cut). By AI agents, Wed Nov 11 2026. No macro, syntax, notation, axiom, sorry.
-/
import Derived.Test.YtdhhepnljadldaaChecked
import GoSem.Claim
import GoSem.ClaimJoined
import GoSem.ClaimMapViews
import Derived.JoinedTies
import Derived.KernelRfl
namespace Go.Proofs.Ytdhhepnljadldaa
/- THE CELL 'sum', in the pinned program and in every row, IS THE sha256 OF THE DUMP (.gsa) THAT YtdhhepnljadldaaProg.lean LOADS. Nothing in Lean hashes anything: it is a label: what it is worth is what the hold of that sum in a sandbox is worth. -/
noncomputable def Try.pinned : Pinned := { name := "ytdhhepnljadldaa", sum := "03c2c77a8e6f88f03b9565beacc1dbadb3287efaf56978675d2f38c5c6d0cec6", checked := Try.checked }
namespace Rows
def none {H : Type} : Left H := { results := [], args := [] }

/-- 'revertlaw09.KeepTells': WHATEVER THE INPUT: true; the input reads as it did. -/
def keepTellsSpec : ChangeSpec := { name := "keepTells", fn := fun _ => fun
  | [d1, d2, d3] => { results := [.lit (.bool true)], args := [d1, d2, d3] }
  | _ => none }
def keepTellsRow : OpenClaim := { program := "ytdhhepnljadldaa", sum := "03c2c77a8e6f88f03b9565beacc1dbadb3287efaf56978675d2f38c5c6d0cec6", func := "revert/revertlaw09.KeepTells", spec := "keepTells", unfollowed := true, recurses := true, apart := false }
def KeepTellsSaid : Prop := keepTellsRow.holds Try.pinned (OpenSpec.ofChange keepTellsSpec)

/-- ITS FALSE NEIGHBOUR: 'it returns false'. Refute it at one input. -/
def keepTellsWrong : ChangeSpec := { name := "keepTells", fn := fun _ => fun
  | [d1, d2, d3] => { results := [.lit (.bool false)], args := [d1, d2, d3] }
  | _ => none }
def KeepTellsWrongFalsely : Prop := keepTellsRow.holds Try.pinned (OpenSpec.ofChange keepTellsWrong)

/-- 'revertlaw09.KeepKeeps': WHATEVER THE INPUT: true; the input reads as it did. -/
def keepKeepsSpec : ChangeSpec := { name := "keepKeeps", fn := fun _ => fun
  | [d1, d2, d3] => { results := [.lit (.bool true)], args := [d1, d2, d3] }
  | _ => none }
def keepKeepsRow : OpenClaim := { program := "ytdhhepnljadldaa", sum := "03c2c77a8e6f88f03b9565beacc1dbadb3287efaf56978675d2f38c5c6d0cec6", func := "revert/revertlaw09.KeepKeeps", spec := "keepKeeps", unfollowed := true, recurses := true, apart := false }
def KeepKeepsSaid : Prop := keepKeepsRow.holds Try.pinned (OpenSpec.ofChange keepKeepsSpec)

/-- ITS FALSE NEIGHBOUR: 'it returns false'. Refute it at one input. -/
def keepKeepsWrong : ChangeSpec := { name := "keepKeeps", fn := fun _ => fun
  | [d1, d2, d3] => { results := [.lit (.bool false)], args := [d1, d2, d3] }
  | _ => none }
def KeepKeepsWrongFalsely : Prop := keepKeepsRow.holds Try.pinned (OpenSpec.ofChange keepKeepsWrong)

/-- 'revertlaw09.KeepKnown': WHATEVER THE INPUT: true; the input reads as it did. -/
def keepKnownSpec : ChangeSpec := { name := "keepKnown", fn := fun _ => fun
  | [] => { results := [.lit (.bool true)], args := [] }
  | _ => none }
def keepKnownRow : OpenClaim := { program := "ytdhhepnljadldaa", sum := "03c2c77a8e6f88f03b9565beacc1dbadb3287efaf56978675d2f38c5c6d0cec6", func := "revert/revertlaw09.KeepKnown", spec := "keepKnown", unfollowed := true, recurses := true, apart := false }
def KeepKnownSaid : Prop := keepKnownRow.holds Try.pinned (OpenSpec.ofChange keepKnownSpec)

/-- ITS FALSE NEIGHBOUR: 'it returns false'. Refute it at one input. -/
def keepKnownWrong : ChangeSpec := { name := "keepKnown", fn := fun _ => fun
  | [] => { results := [.lit (.bool false)], args := [] }
  | _ => none }
def KeepKnownWrongFalsely : Prop := keepKnownRow.holds Try.pinned (OpenSpec.ofChange keepKnownWrong)

/-- 'revertlaw09.KeepShrinks': WHATEVER THE INPUT: true; the input reads as it did. -/
def keepShrinksSpec : ChangeSpec := { name := "keepShrinks", fn := fun _ => fun
  | [d1, d2, d3] => { results := [.lit (.bool true)], args := [d1, d2, d3] }
  | _ => none }
def keepShrinksRow : OpenClaim := { program := "ytdhhepnljadldaa", sum := "03c2c77a8e6f88f03b9565beacc1dbadb3287efaf56978675d2f38c5c6d0cec6", func := "revert/revertlaw09.KeepShrinks", spec := "keepShrinks", unfollowed := true, recurses := true, apart := false }
def KeepShrinksSaid : Prop := keepShrinksRow.holds Try.pinned (OpenSpec.ofChange keepShrinksSpec)

/-- ITS FALSE NEIGHBOUR: 'it returns false'. Refute it at one input. -/
def keepShrinksWrong : ChangeSpec := { name := "keepShrinks", fn := fun _ => fun
  | [d1, d2, d3] => { results := [.lit (.bool false)], args := [d1, d2, d3] }
  | _ => none }
def KeepShrinksWrongFalsely : Prop := keepShrinksRow.holds Try.pinned (OpenSpec.ofChange keepShrinksWrong)

/-- 'revertlaw09.KeepThins': WHATEVER THE INPUT: true; the input reads as it did. -/
def keepThinsSpec : ChangeSpec := { name := "keepThins", fn := fun _ => fun
  | [d1, d2] => { results := [.lit (.bool true)], args := [d1, d2] }
  | _ => none }
def keepThinsRow : OpenClaim := { program := "ytdhhepnljadldaa", sum := "03c2c77a8e6f88f03b9565beacc1dbadb3287efaf56978675d2f38c5c6d0cec6", func := "revert/revertlaw09.KeepThins", spec := "keepThins", unfollowed := true, recurses := true, apart := false }
def KeepThinsSaid : Prop := keepThinsRow.holds Try.pinned (OpenSpec.ofChange keepThinsSpec)

/-- ITS FALSE NEIGHBOUR: 'it returns false'. Refute it at one input. -/
def keepThinsWrong : ChangeSpec := { name := "keepThins", fn := fun _ => fun
  | [d1, d2] => { results := [.lit (.bool false)], args := [d1, d2] }
  | _ => none }
def KeepThinsWrongFalsely : Prop := keepThinsRow.holds Try.pinned (OpenSpec.ofChange keepThinsWrong)

/-- 'revertlaw09.KeepComes': WHATEVER THE INPUT: true; the input reads as it did. -/
def keepComesSpec : ChangeSpec := { name := "keepComes", fn := fun _ => fun
  | [d1, d2, d3] => { results := [.lit (.bool true)], args := [d1, d2, d3] }
  | _ => none }
def keepComesRow : OpenClaim := { program := "ytdhhepnljadldaa", sum := "03c2c77a8e6f88f03b9565beacc1dbadb3287efaf56978675d2f38c5c6d0cec6", func := "revert/revertlaw09.KeepComes", spec := "keepComes", unfollowed := true, recurses := true, apart := false }
def KeepComesSaid : Prop := keepComesRow.holds Try.pinned (OpenSpec.ofChange keepComesSpec)

/-- ITS FALSE NEIGHBOUR: 'it returns false'. Refute it at one input. -/
def keepComesWrong : ChangeSpec := { name := "keepComes", fn := fun _ => fun
  | [d1, d2, d3] => { results := [.lit (.bool false)], args := [d1, d2, d3] }
  | _ => none }
def KeepComesWrongFalsely : Prop := keepComesRow.holds Try.pinned (OpenSpec.ofChange keepComesWrong)

/- THE SECOND FORM. 'bulk': how many values and letters a reading holds, each counted each time it is reached (what is shared counts as often as it is met; a slice's spare places count too). A statement '..UptoSaid' is the law's where the arguments, and the package variables that the reading takes, are together of bulk at most 1048576: NARROWER than '..Said'. Prove '..Said' where nothing that the law and all that it calls make is longer than what came in: it says more and counts as full. Else prove '..UptoSaid'. A law counts once. -/
mutual
def uptoBulk {H : Type} : DataW H → Nat
  | .lit (.string bytes) => bytes.length + 1
  | .lit _ => 1
  | .nil => 1
  | .ptr d => uptoBulk d + 1
  | .slice elems spare => uptoBulkAll elems + uptoBulkAll spare + 1
  | .agg parts => uptoBulkAll parts + 1
  | .iface _ d => uptoBulk d + 1
  | .map entries => uptoBulkEntries entries + 1
  | .held _ => 1
def uptoBulkAll {H : Type} : List (DataW H) → Nat
  | [] => 0
  | d :: r => uptoBulk d + uptoBulkAll r
def uptoBulkEntries {H : Type} : List (Lit × DataW H) → Nat
  | [] => 0
  | x :: r => uptoBulkEntry x + uptoBulkEntries r
def uptoBulkEntry {H : Type} : Lit × DataW H → Nat
  | (.string bytes, d) => bytes.length + uptoBulk d + 1
  | (_, d) => uptoBulk d + 1
 end
def uptoSmall : (H : Type) → List (DataW H) → Bool := fun _ ds => decide (uptoBulkAll ds ≤ 1048576)
def OpenSpec.upto (s : _root_.Go.ChangeSpec) : _root_.Go.OpenSpec := { _root_.Go.OpenSpec.ofChange s with cond := some uptoSmall }

/-- 'revertlaw09.KeepTells', WHERE WHAT IT READS IS OF BULK AT MOST 1048576: true; the input reads as it did. -/
def keepTellsUptoRow : OpenClaim := { program := "ytdhhepnljadldaa", sum := "03c2c77a8e6f88f03b9565beacc1dbadb3287efaf56978675d2f38c5c6d0cec6", func := "revert/revertlaw09.KeepTells", spec := "keepTells", unfollowed := true, recurses := true, apart := false, narrowed := true }
def KeepTellsUptoSaid : Prop := keepTellsUptoRow.holds Try.pinned (OpenSpec.upto keepTellsSpec)

/-- 'revertlaw09.KeepKeeps', WHERE WHAT IT READS IS OF BULK AT MOST 1048576: true; the input reads as it did. -/
def keepKeepsUptoRow : OpenClaim := { program := "ytdhhepnljadldaa", sum := "03c2c77a8e6f88f03b9565beacc1dbadb3287efaf56978675d2f38c5c6d0cec6", func := "revert/revertlaw09.KeepKeeps", spec := "keepKeeps", unfollowed := true, recurses := true, apart := false, narrowed := true }
def KeepKeepsUptoSaid : Prop := keepKeepsUptoRow.holds Try.pinned (OpenSpec.upto keepKeepsSpec)

/-- 'revertlaw09.KeepKnown', WHERE WHAT IT READS IS OF BULK AT MOST 1048576: true; the input reads as it did. -/
def keepKnownUptoRow : OpenClaim := { program := "ytdhhepnljadldaa", sum := "03c2c77a8e6f88f03b9565beacc1dbadb3287efaf56978675d2f38c5c6d0cec6", func := "revert/revertlaw09.KeepKnown", spec := "keepKnown", unfollowed := true, recurses := true, apart := false, narrowed := true }
def KeepKnownUptoSaid : Prop := keepKnownUptoRow.holds Try.pinned (OpenSpec.upto keepKnownSpec)

/-- 'revertlaw09.KeepShrinks', WHERE WHAT IT READS IS OF BULK AT MOST 1048576: true; the input reads as it did. -/
def keepShrinksUptoRow : OpenClaim := { program := "ytdhhepnljadldaa", sum := "03c2c77a8e6f88f03b9565beacc1dbadb3287efaf56978675d2f38c5c6d0cec6", func := "revert/revertlaw09.KeepShrinks", spec := "keepShrinks", unfollowed := true, recurses := true, apart := false, narrowed := true }
def KeepShrinksUptoSaid : Prop := keepShrinksUptoRow.holds Try.pinned (OpenSpec.upto keepShrinksSpec)

/-- 'revertlaw09.KeepThins', WHERE WHAT IT READS IS OF BULK AT MOST 1048576: true; the input reads as it did. -/
def keepThinsUptoRow : OpenClaim := { program := "ytdhhepnljadldaa", sum := "03c2c77a8e6f88f03b9565beacc1dbadb3287efaf56978675d2f38c5c6d0cec6", func := "revert/revertlaw09.KeepThins", spec := "keepThins", unfollowed := true, recurses := true, apart := false, narrowed := true }
def KeepThinsUptoSaid : Prop := keepThinsUptoRow.holds Try.pinned (OpenSpec.upto keepThinsSpec)

/-- 'revertlaw09.KeepComes', WHERE WHAT IT READS IS OF BULK AT MOST 1048576: true; the input reads as it did. -/
def keepComesUptoRow : OpenClaim := { program := "ytdhhepnljadldaa", sum := "03c2c77a8e6f88f03b9565beacc1dbadb3287efaf56978675d2f38c5c6d0cec6", func := "revert/revertlaw09.KeepComes", spec := "keepComes", unfollowed := true, recurses := true, apart := false, narrowed := true }
def KeepComesUptoSaid : Prop := keepComesUptoRow.holds Try.pinned (OpenSpec.upto keepComesSpec)

end Rows
end Go.Proofs.Ytdhhepnljadldaa
