/-
  DERIVED. GIVEN WITH THE SEED: THE CARDS: each row of YtjgdcifkaopnpaaDoorRows.lean that lists a variable, with what it lists TIED to the program's text (the seventh form; the later family's looks); each row that meets fmt, with fmt's text TOLD by the authors' own Lean function (tested against real Go, not proved from fmt's source: count such statements apart). THE CARD IS WHAT COUNTS. Prove the row's statement (the work); the ties are given (YtjgdcifkaopnpaaDoorTie.lean); close each card by the builder's one call (the guide's Derived/Test/ToyasCard.lean, 'card_holds'). Laid BY PROGRAM, IN A SANDBOX (cutbox-door.mjs). By AI agents, Wed Nov 11 2026. No macro, syntax, notation, axiom, sorry.
-/
import Derived.Test.YtjgdcifkaopnpaaDoorRows
import GoSem.ClaimSeven
namespace Go.Proofs.YtjgdcifkaopnpaaDoor
namespace Rows

/-- THE TIED CARD OF 'revertlaw08.RankAll'. -/
def rankAllCard : Claim7 := { stood := { row := rankAllRow, standIns := [], harness := (true, "59d09637d921695e46e025e2b56fe8657c1394f49b8e3a1494f32b0ac5eb4d8c"), looks := true }, kinds := [], alts := [], laidByText := true, laidKinds := [.data, .data, .data, .sentinel, .sentinel], laidTests := true, laidLooks := .later }
def RankAllCardSaid : Prop := Claim7.holds Tryd.pinned (.plain (OpenSpec.ofChange rankAllSpec)) rankAllCard

/-- THE TIED CARD OF 'revertlaw08.RankSame'. -/
def rankSameCard : Claim7 := { stood := { row := rankSameRow, standIns := [], harness := (true, "59d09637d921695e46e025e2b56fe8657c1394f49b8e3a1494f32b0ac5eb4d8c"), looks := true }, kinds := [], alts := [], laidByText := true, laidKinds := [.data, .data, .data], laidTests := true, laidLooks := .later }
def RankSameCardSaid : Prop := Claim7.holds Tryd.pinned (.plain (OpenSpec.ofChange rankSameSpec)) rankSameCard

/-- THE SECOND FORM's CARD OF 'revertlaw08.RankAll'. -/
def rankAllUptoCard : Claim7 := { stood := { row := rankAllUptoRow, standIns := [], harness := (true, "59d09637d921695e46e025e2b56fe8657c1394f49b8e3a1494f32b0ac5eb4d8c"), looks := true }, kinds := [], alts := [], laidByText := true, laidKinds := [.data, .data, .data, .sentinel, .sentinel], laidTests := true, laidLooks := .later }
def RankAllUptoCardSaid : Prop := Claim7.holds Tryd.pinned (.plain (OpenSpec.upto rankAllSpec)) rankAllUptoCard

/-- THE SECOND FORM's CARD OF 'revertlaw08.RankSame'. -/
def rankSameUptoCard : Claim7 := { stood := { row := rankSameUptoRow, standIns := [], harness := (true, "59d09637d921695e46e025e2b56fe8657c1394f49b8e3a1494f32b0ac5eb4d8c"), looks := true }, kinds := [], alts := [], laidByText := true, laidKinds := [.data, .data, .data], laidTests := true, laidLooks := .later }
def RankSameUptoCardSaid : Prop := Claim7.holds Tryd.pinned (.plain (OpenSpec.upto rankSameSpec)) rankSameUptoCard
end Rows
end Go.Proofs.YtjgdcifkaopnpaaDoor
