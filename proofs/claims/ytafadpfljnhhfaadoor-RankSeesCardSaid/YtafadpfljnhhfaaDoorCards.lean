/-
  DERIVED. GIVEN WITH THE SEED: THE CARDS: each row of YtafadpfljnhhfaaDoorRows.lean that lists a variable, with what it lists TIED to the program's text (the seventh form; the later family's looks); each row that meets fmt, with fmt's text TOLD by the authors' own Lean function (tested against real Go, not proved from fmt's source: count such statements apart). THE CARD IS WHAT COUNTS. Prove the row's statement (the work); the ties are given (YtafadpfljnhhfaaDoorTie.lean); close each card by the builder's one call (the guide's Derived/Test/ToyasCard.lean, 'card_holds'). Laid BY PROGRAM, IN A SANDBOX (cutbox-door.mjs). By AI agents, Wed Nov 11 2026. No macro, syntax, notation, axiom, sorry.
-/
import Derived.Test.YtafadpfljnhhfaaDoorRows
import GoSem.ClaimSeven
namespace Go.Proofs.YtafadpfljnhhfaaDoor
namespace Rows

/-- THE TIED CARD OF 'revertlaw08.RankGroups'. -/
def rankGroupsCard : Claim7 := { stood := { row := rankGroupsRow, standIns := [], harness := (true, "5753960132d56a31afd5b621eedc3217e122d726a5aed6586b219055e0740dcf"), looks := false }, kinds := [], alts := [], laidByText := true, laidKinds := [.data, .data, .data], laidTests := true, laidLooks := .later }
def RankGroupsCardSaid : Prop := Claim7.holds Tryd.pinned (.plain (OpenSpec.ofChange rankGroupsSpec)) rankGroupsCard

/-- THE TIED CARD OF 'revertlaw08.RankSees'. -/
def rankSeesCard : Claim7 := { stood := { row := rankSeesRow, standIns := [], harness := (true, "5753960132d56a31afd5b621eedc3217e122d726a5aed6586b219055e0740dcf"), looks := false }, kinds := [], alts := [], laidByText := true, laidKinds := [.data, .data, .data], laidTests := true, laidLooks := .later }
def RankSeesCardSaid : Prop := Claim7.holds Tryd.pinned (.plain (OpenSpec.ofChange rankSeesSpec)) rankSeesCard

/-- THE TIED CARD OF 'revertlaw08.RankKnown'. -/
def rankKnownCard : Claim7 := { stood := { row := rankKnownRow, standIns := [], harness := (true, "5753960132d56a31afd5b621eedc3217e122d726a5aed6586b219055e0740dcf"), looks := false }, kinds := [], alts := [], laidByText := true, laidKinds := [.data, .data, .data], laidTests := true, laidLooks := .later }
def RankKnownCardSaid : Prop := Claim7.holds Tryd.pinned (.plain (OpenSpec.ofChange rankKnownSpec)) rankKnownCard

/-- THE SECOND FORM's CARD OF 'revertlaw08.RankGroups'. -/
def rankGroupsUptoCard : Claim7 := { stood := { row := rankGroupsUptoRow, standIns := [], harness := (true, "5753960132d56a31afd5b621eedc3217e122d726a5aed6586b219055e0740dcf"), looks := false }, kinds := [], alts := [], laidByText := true, laidKinds := [.data, .data, .data], laidTests := true, laidLooks := .later }
def RankGroupsUptoCardSaid : Prop := Claim7.holds Tryd.pinned (.plain (OpenSpec.upto rankGroupsSpec)) rankGroupsUptoCard

/-- THE SECOND FORM's CARD OF 'revertlaw08.RankSees'. -/
def rankSeesUptoCard : Claim7 := { stood := { row := rankSeesUptoRow, standIns := [], harness := (true, "5753960132d56a31afd5b621eedc3217e122d726a5aed6586b219055e0740dcf"), looks := false }, kinds := [], alts := [], laidByText := true, laidKinds := [.data, .data, .data], laidTests := true, laidLooks := .later }
def RankSeesUptoCardSaid : Prop := Claim7.holds Tryd.pinned (.plain (OpenSpec.upto rankSeesSpec)) rankSeesUptoCard

/-- THE SECOND FORM's CARD OF 'revertlaw08.RankKnown'. -/
def rankKnownUptoCard : Claim7 := { stood := { row := rankKnownUptoRow, standIns := [], harness := (true, "5753960132d56a31afd5b621eedc3217e122d726a5aed6586b219055e0740dcf"), looks := false }, kinds := [], alts := [], laidByText := true, laidKinds := [.data, .data, .data], laidTests := true, laidLooks := .later }
def RankKnownUptoCardSaid : Prop := Claim7.holds Tryd.pinned (.plain (OpenSpec.upto rankKnownSpec)) rankKnownUptoCard
end Rows
end Go.Proofs.YtafadpfljnhhfaaDoor
