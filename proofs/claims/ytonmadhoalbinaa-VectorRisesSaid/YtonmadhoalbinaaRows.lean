/-
  No cell of these rows narrows 'for every input' (looked for: loops, veiled, ifaces, maps, wideKeys, modest, calm, conditions, laid).
  DERIVED. THE GIVEN ROWS OF THIS SEAT. 6 by the template 'for every input the law returns true; each argument reads behind the call as it read before'; 0 by the template 'total and deterministic' (their statements: YtonmadhoalbinaaTotals.lean).
  GIVEN WITH THE SEED: the statements are not yours to turn. If you find one false, say at which input.
  Laid BY PROGRAM, IN A SANDBOX (cutbox-rows.mjs): the forced cells as the released guide's own fill.sh prints them over the translation def5c8cae4575930… (all of the seat's roots in one cut). By AI agents, Wed Nov 11 2026. No macro, syntax, notation, axiom, sorry.
-/
import Derived.Test.YtonmadhoalbinaaChecked
import GoSem.Claim
import GoSem.ClaimJoined
import GoSem.ClaimMapViews
import Derived.JoinedTies
import Derived.KernelRfl
namespace Go.Proofs.Ytonmadhoalbinaa
/- THE CELL 'sum', in the pinned program and in every row, IS THE sha256 OF THE DUMP (.gsa) THAT YtonmadhoalbinaaProg.lean LOADS. Nothing in Lean hashes anything: it is a label: what it is worth is what the hold of that sum in a sandbox is worth. -/
noncomputable def Try.pinned : Pinned := { name := "ytonmadhoalbinaa", sum := "def5c8cae4575930c40174884ba6cd6984b0175f984c292768920b6d607d04ed", checked := Try.checked }
namespace Rows
def none {H : Type} : Left H := { results := [], args := [] }

/-- 'revertlaw05.VectorJoins': WHATEVER THE INPUT: true; the input reads as it did. -/
def vectorJoinsSpec : ChangeSpec := { name := "vectorJoins", fn := fun _ => fun
  | [d1, d2, d3] => { results := [.lit (.bool true)], args := [d1, d2, d3] }
  | _ => none }
def vectorJoinsRow : OpenClaim := { program := "ytonmadhoalbinaa", sum := "def5c8cae4575930c40174884ba6cd6984b0175f984c292768920b6d607d04ed", func := "revert/revertlaw05.VectorJoins", spec := "vectorJoins", unfollowed := true, recurses := true, apart := false }
def VectorJoinsSaid : Prop := vectorJoinsRow.holds Try.pinned (OpenSpec.ofChange vectorJoinsSpec)

/-- ITS FALSE NEIGHBOUR: 'it returns false'. Refute it at one input. -/
def vectorJoinsWrong : ChangeSpec := { name := "vectorJoins", fn := fun _ => fun
  | [d1, d2, d3] => { results := [.lit (.bool false)], args := [d1, d2, d3] }
  | _ => none }
def VectorJoinsWrongFalsely : Prop := vectorJoinsRow.holds Try.pinned (OpenSpec.ofChange vectorJoinsWrong)

/-- 'revertlaw05.VectorLattice': WHATEVER THE INPUT: true; the input reads as it did. -/
def vectorLatticeSpec : ChangeSpec := { name := "vectorLattice", fn := fun _ => fun
  | [d1, d2] => { results := [.lit (.bool true)], args := [d1, d2] }
  | _ => none }
def vectorLatticeRow : OpenClaim := { program := "ytonmadhoalbinaa", sum := "def5c8cae4575930c40174884ba6cd6984b0175f984c292768920b6d607d04ed", func := "revert/revertlaw05.VectorLattice", spec := "vectorLattice", unfollowed := true, recurses := true, apart := false }
def VectorLatticeSaid : Prop := vectorLatticeRow.holds Try.pinned (OpenSpec.ofChange vectorLatticeSpec)

/-- ITS FALSE NEIGHBOUR: 'it returns false'. Refute it at one input. -/
def vectorLatticeWrong : ChangeSpec := { name := "vectorLattice", fn := fun _ => fun
  | [d1, d2] => { results := [.lit (.bool false)], args := [d1, d2] }
  | _ => none }
def VectorLatticeWrongFalsely : Prop := vectorLatticeRow.holds Try.pinned (OpenSpec.ofChange vectorLatticeWrong)

/-- 'revertlaw05.VectorRises': WHATEVER THE INPUT: true; the input reads as it did. -/
def vectorRisesSpec : ChangeSpec := { name := "vectorRises", fn := fun _ => fun
  | [d] => { results := [.lit (.bool true)], args := [d] }
  | _ => none }
def vectorRisesRow : OpenClaim := { program := "ytonmadhoalbinaa", sum := "def5c8cae4575930c40174884ba6cd6984b0175f984c292768920b6d607d04ed", func := "revert/revertlaw05.VectorRises", spec := "vectorRises", unfollowed := true, recurses := true, apart := false }
def VectorRisesSaid : Prop := vectorRisesRow.holds Try.pinned (OpenSpec.ofChange vectorRisesSpec)

/-- ITS FALSE NEIGHBOUR: 'it returns false'. Refute it at one input. -/
def vectorRisesWrong : ChangeSpec := { name := "vectorRises", fn := fun _ => fun
  | [d] => { results := [.lit (.bool false)], args := [d] }
  | _ => none }
def VectorRisesWrongFalsely : Prop := vectorRisesRow.holds Try.pinned (OpenSpec.ofChange vectorRisesWrong)

/-- 'revertlaw05.VectorTexts': WHATEVER THE INPUT: true; the input reads as it did. -/
def vectorTextsSpec : ChangeSpec := { name := "vectorTexts", fn := fun _ => fun
  | [d1, d2, d3] => { results := [.lit (.bool true)], args := [d1, d2, d3] }
  | _ => none }
def vectorTextsRow : OpenClaim := { program := "ytonmadhoalbinaa", sum := "def5c8cae4575930c40174884ba6cd6984b0175f984c292768920b6d607d04ed", func := "revert/revertlaw05.VectorTexts", spec := "vectorTexts", unfollowed := true, recurses := true, apart := false }
def VectorTextsSaid : Prop := vectorTextsRow.holds Try.pinned (OpenSpec.ofChange vectorTextsSpec)

/-- ITS FALSE NEIGHBOUR: 'it returns false'. Refute it at one input. -/
def vectorTextsWrong : ChangeSpec := { name := "vectorTexts", fn := fun _ => fun
  | [d1, d2, d3] => { results := [.lit (.bool false)], args := [d1, d2, d3] }
  | _ => none }
def VectorTextsWrongFalsely : Prop := vectorTextsRow.holds Try.pinned (OpenSpec.ofChange vectorTextsWrong)

/-- 'revertlaw05.VectorBack': WHATEVER THE INPUT: true; the input reads as it did. -/
def vectorBackSpec : ChangeSpec := { name := "vectorBack", fn := fun _ => fun
  | [d1, d2, d3] => { results := [.lit (.bool true)], args := [d1, d2, d3] }
  | _ => none }
def vectorBackRow : OpenClaim := { program := "ytonmadhoalbinaa", sum := "def5c8cae4575930c40174884ba6cd6984b0175f984c292768920b6d607d04ed", func := "revert/revertlaw05.VectorBack", spec := "vectorBack", unfollowed := true, recurses := true, apart := false }
def VectorBackSaid : Prop := vectorBackRow.holds Try.pinned (OpenSpec.ofChange vectorBackSpec)

/-- ITS FALSE NEIGHBOUR: 'it returns false'. Refute it at one input. -/
def vectorBackWrong : ChangeSpec := { name := "vectorBack", fn := fun _ => fun
  | [d1, d2, d3] => { results := [.lit (.bool false)], args := [d1, d2, d3] }
  | _ => none }
def VectorBackWrongFalsely : Prop := vectorBackRow.holds Try.pinned (OpenSpec.ofChange vectorBackWrong)

/-- 'revertlaw05.VectorKnown': WHATEVER THE INPUT: true; the input reads as it did. -/
def vectorKnownSpec : ChangeSpec := { name := "vectorKnown", fn := fun _ => fun
  | [] => { results := [.lit (.bool true)], args := [] }
  | _ => none }
def vectorKnownRow : OpenClaim := { program := "ytonmadhoalbinaa", sum := "def5c8cae4575930c40174884ba6cd6984b0175f984c292768920b6d607d04ed", func := "revert/revertlaw05.VectorKnown", spec := "vectorKnown", unfollowed := true, recurses := true, apart := false }
def VectorKnownSaid : Prop := vectorKnownRow.holds Try.pinned (OpenSpec.ofChange vectorKnownSpec)

/-- ITS FALSE NEIGHBOUR: 'it returns false'. Refute it at one input. -/
def vectorKnownWrong : ChangeSpec := { name := "vectorKnown", fn := fun _ => fun
  | [] => { results := [.lit (.bool false)], args := [] }
  | _ => none }
def VectorKnownWrongFalsely : Prop := vectorKnownRow.holds Try.pinned (OpenSpec.ofChange vectorKnownWrong)

/- THE SECOND FORM. 'bulk': how many values and letters a reading holds, each counted each time it is reached (what is shared counts as often as it is met; a slice's spare places count too). A statement '..UptoSaid' is the law's where the arguments, and the package variables that the reading takes, are together of bulk at most 1048576: NARROWER than '..Said'. Prove '..Said' where nothing that the law and all that it calls make is longer than what came in: it says more and counts as full. Else prove '..UptoSaid'. A law counts once. -/
mutual
def uptoBulk {H : Type} : DataW H → Nat
  | .lit (.string bytes) => bytes.length + 1
  | .lit _ => 1
  | .nil => 1
  | .ptr d => uptoBulk d + 1
  | .slice elems spare => uptoBulkAll elems + uptoBulkAll spare + 1
  | .agg parts => uptoBulkAll parts + 1
  | .iface _ d => uptoBulk d + 1
  | .map entries => uptoBulkEntries entries + 1
  | .held _ => 1
def uptoBulkAll {H : Type} : List (DataW H) → Nat
  | [] => 0
  | d :: r => uptoBulk d + uptoBulkAll r
def uptoBulkEntries {H : Type} : List (Lit × DataW H) → Nat
  | [] => 0
  | x :: r => uptoBulkEntry x + uptoBulkEntries r
def uptoBulkEntry {H : Type} : Lit × DataW H → Nat
  | (.string bytes, d) => bytes.length + uptoBulk d + 1
  | (_, d) => uptoBulk d + 1
 end
def uptoSmall : (H : Type) → List (DataW H) → Bool := fun _ ds => decide (uptoBulkAll ds ≤ 1048576)
def OpenSpec.upto (s : _root_.Go.ChangeSpec) : _root_.Go.OpenSpec := { _root_.Go.OpenSpec.ofChange s with cond := some uptoSmall }

/-- 'revertlaw05.VectorJoins', WHERE WHAT IT READS IS OF BULK AT MOST 1048576: true; the input reads as it did. -/
def vectorJoinsUptoRow : OpenClaim := { program := "ytonmadhoalbinaa", sum := "def5c8cae4575930c40174884ba6cd6984b0175f984c292768920b6d607d04ed", func := "revert/revertlaw05.VectorJoins", spec := "vectorJoins", unfollowed := true, recurses := true, apart := false, narrowed := true }
def VectorJoinsUptoSaid : Prop := vectorJoinsUptoRow.holds Try.pinned (OpenSpec.upto vectorJoinsSpec)

/-- 'revertlaw05.VectorLattice', WHERE WHAT IT READS IS OF BULK AT MOST 1048576: true; the input reads as it did. -/
def vectorLatticeUptoRow : OpenClaim := { program := "ytonmadhoalbinaa", sum := "def5c8cae4575930c40174884ba6cd6984b0175f984c292768920b6d607d04ed", func := "revert/revertlaw05.VectorLattice", spec := "vectorLattice", unfollowed := true, recurses := true, apart := false, narrowed := true }
def VectorLatticeUptoSaid : Prop := vectorLatticeUptoRow.holds Try.pinned (OpenSpec.upto vectorLatticeSpec)

/-- 'revertlaw05.VectorRises', WHERE WHAT IT READS IS OF BULK AT MOST 1048576: true; the input reads as it did. -/
def vectorRisesUptoRow : OpenClaim := { program := "ytonmadhoalbinaa", sum := "def5c8cae4575930c40174884ba6cd6984b0175f984c292768920b6d607d04ed", func := "revert/revertlaw05.VectorRises", spec := "vectorRises", unfollowed := true, recurses := true, apart := false, narrowed := true }
def VectorRisesUptoSaid : Prop := vectorRisesUptoRow.holds Try.pinned (OpenSpec.upto vectorRisesSpec)

/-- 'revertlaw05.VectorTexts', WHERE WHAT IT READS IS OF BULK AT MOST 1048576: true; the input reads as it did. -/
def vectorTextsUptoRow : OpenClaim := { program := "ytonmadhoalbinaa", sum := "def5c8cae4575930c40174884ba6cd6984b0175f984c292768920b6d607d04ed", func := "revert/revertlaw05.VectorTexts", spec := "vectorTexts", unfollowed := true, recurses := true, apart := false, narrowed := true }
def VectorTextsUptoSaid : Prop := vectorTextsUptoRow.holds Try.pinned (OpenSpec.upto vectorTextsSpec)

/-- 'revertlaw05.VectorBack', WHERE WHAT IT READS IS OF BULK AT MOST 1048576: true; the input reads as it did. -/
def vectorBackUptoRow : OpenClaim := { program := "ytonmadhoalbinaa", sum := "def5c8cae4575930c40174884ba6cd6984b0175f984c292768920b6d607d04ed", func := "revert/revertlaw05.VectorBack", spec := "vectorBack", unfollowed := true, recurses := true, apart := false, narrowed := true }
def VectorBackUptoSaid : Prop := vectorBackUptoRow.holds Try.pinned (OpenSpec.upto vectorBackSpec)

/-- 'revertlaw05.VectorKnown', WHERE WHAT IT READS IS OF BULK AT MOST 1048576: true; the input reads as it did. -/
def vectorKnownUptoRow : OpenClaim := { program := "ytonmadhoalbinaa", sum := "def5c8cae4575930c40174884ba6cd6984b0175f984c292768920b6d607d04ed", func := "revert/revertlaw05.VectorKnown", spec := "vectorKnown", unfollowed := true, recurses := true, apart := false, narrowed := true }
def VectorKnownUptoSaid : Prop := vectorKnownUptoRow.holds Try.pinned (OpenSpec.upto vectorKnownSpec)

end Rows
end Go.Proofs.Ytonmadhoalbinaa
