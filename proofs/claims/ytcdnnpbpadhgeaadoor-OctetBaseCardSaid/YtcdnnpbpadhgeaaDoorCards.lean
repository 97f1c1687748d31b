/-
  DERIVED. GIVEN WITH THE SEED: THE CARDS: each row of YtcdnnpbpadhgeaaDoorRows.lean that lists a variable, with what it lists TIED to the program's text (the seventh form; the later family's looks); each row that meets fmt, with fmt's text TOLD by the authors' own Lean function (tested against real Go, not proved from fmt's source: count such statements apart). THE CARD IS WHAT COUNTS. Prove the row's statement (the work); the ties are given (YtcdnnpbpadhgeaaDoorTie.lean); close each card by the builder's one call (the guide's Derived/Test/ToyasCard.lean, 'card_holds'). Laid BY PROGRAM, IN A SANDBOX (cutbox-door.mjs). By AI agents, Wed Nov 11 2026. No macro, syntax, notation, axiom, sorry.
-/
import Derived.Test.YtcdnnpbpadhgeaaDoorRows
import GoSem.ClaimSeven
namespace Go.Proofs.YtcdnnpbpadhgeaaDoor
namespace Rows

/-- THE TIED CARD OF 'rosterlaw01.OctetValid'. -/
def octetValidCard : Claim7 := { stood := { row := octetValidRow, standIns := [], harness := (true, "87301c43dff1662eee7c4ba0d22df00147fe6bf749b8ac1d14b1bbdb66227ec9"), looks := false }, kinds := [], alts := [], laidByText := true, laidKinds := [.data, .pinned, .pinned], laidTests := true, laidLooks := .later }
def OctetValidCardSaid : Prop := Claim7.holds Tryd.pinned (.plain (OpenSpec.ofChange octetValidSpec)) octetValidCard

/-- THE TIED CARD OF 'rosterlaw01.OctetHex'. -/
def octetHexCard : Claim7 := { stood := { row := octetHexRow, standIns := [], harness := (true, "87301c43dff1662eee7c4ba0d22df00147fe6bf749b8ac1d14b1bbdb66227ec9"), looks := false }, kinds := [], alts := [], laidByText := true, laidKinds := [.data, .pinned, .pinned], laidTests := true, laidLooks := .later }
def OctetHexCardSaid : Prop := Claim7.holds Tryd.pinned (.plain (OpenSpec.ofChange octetHexSpec)) octetHexCard

/-- THE TIED CARD OF 'rosterlaw01.OctetEscapes'. -/
def octetEscapesCard : Claim7 := { stood := { row := octetEscapesRow, standIns := [], harness := (true, "87301c43dff1662eee7c4ba0d22df00147fe6bf749b8ac1d14b1bbdb66227ec9"), looks := false }, kinds := [], alts := [], laidByText := true, laidKinds := [.data, .pinned, .pinned], laidTests := true, laidLooks := .later }
def OctetEscapesCardSaid : Prop := Claim7.holds Tryd.pinned (.plain (OpenSpec.ofChange octetEscapesSpec)) octetEscapesCard

/-- THE TIED CARD OF 'rosterlaw01.OctetBase'. -/
def octetBaseCard : Claim7 := { stood := { row := octetBaseRow, standIns := [], harness := (true, "87301c43dff1662eee7c4ba0d22df00147fe6bf749b8ac1d14b1bbdb66227ec9"), looks := false }, kinds := [], alts := [], laidByText := true, laidKinds := [.data, .pinned, .pinned], laidTests := true, laidLooks := .later }
def OctetBaseCardSaid : Prop := Claim7.holds Tryd.pinned (.plain (OpenSpec.ofChange octetBaseSpec)) octetBaseCard

/-- THE TIED CARD OF 'rosterlaw01.OctetNames'. -/
def octetNamesCard : Claim7 := { stood := { row := octetNamesRow, standIns := [], harness := (true, "87301c43dff1662eee7c4ba0d22df00147fe6bf749b8ac1d14b1bbdb66227ec9"), looks := false }, kinds := [], alts := [], laidByText := true, laidKinds := [.data, .pinned, .pinned], laidTests := true, laidLooks := .later }
def OctetNamesCardSaid : Prop := Claim7.holds Tryd.pinned (.plain (OpenSpec.ofChange octetNamesSpec)) octetNamesCard

/-- THE TIED CARD OF 'rosterlaw01.OctetBack'. -/
def octetBackCard : Claim7 := { stood := { row := octetBackRow, standIns := [], harness := (true, "87301c43dff1662eee7c4ba0d22df00147fe6bf749b8ac1d14b1bbdb66227ec9"), looks := false }, kinds := [], alts := [], laidByText := true, laidKinds := [.data, .pinned, .pinned], laidTests := true, laidLooks := .later }
def OctetBackCardSaid : Prop := Claim7.holds Tryd.pinned (.plain (OpenSpec.ofChange octetBackSpec)) octetBackCard

/-- THE TIED CARD OF 'rosterlaw01.OctetOnly'. -/
def octetOnlyCard : Claim7 := { stood := { row := octetOnlyRow, standIns := [], harness := (true, "87301c43dff1662eee7c4ba0d22df00147fe6bf749b8ac1d14b1bbdb66227ec9"), looks := false }, kinds := [], alts := [], laidByText := true, laidKinds := [.data, .pinned, .pinned], laidTests := true, laidLooks := .later }
def OctetOnlyCardSaid : Prop := Claim7.holds Tryd.pinned (.plain (OpenSpec.ofChange octetOnlySpec)) octetOnlyCard

/-- THE TIED CARD OF 'rosterlaw01.OctetPieces'. -/
def octetPiecesCard : Claim7 := { stood := { row := octetPiecesRow, standIns := [], harness := (true, "87301c43dff1662eee7c4ba0d22df00147fe6bf749b8ac1d14b1bbdb66227ec9"), looks := false }, kinds := [], alts := [], laidByText := true, laidKinds := [.data, .pinned, .pinned], laidTests := true, laidLooks := .later }
def OctetPiecesCardSaid : Prop := Claim7.holds Tryd.pinned (.plain (OpenSpec.ofChange octetPiecesSpec)) octetPiecesCard

/-- THE SECOND FORM's CARD OF 'rosterlaw01.OctetValid'. -/
def octetValidUptoCard : Claim7 := { stood := { row := octetValidUptoRow, standIns := [], harness := (true, "87301c43dff1662eee7c4ba0d22df00147fe6bf749b8ac1d14b1bbdb66227ec9"), looks := false }, kinds := [], alts := [], laidByText := true, laidKinds := [.data, .pinned, .pinned], laidTests := true, laidLooks := .later }
def OctetValidUptoCardSaid : Prop := Claim7.holds Tryd.pinned (.plain (OpenSpec.upto octetValidSpec)) octetValidUptoCard

/-- THE SECOND FORM's CARD OF 'rosterlaw01.OctetHex'. -/
def octetHexUptoCard : Claim7 := { stood := { row := octetHexUptoRow, standIns := [], harness := (true, "87301c43dff1662eee7c4ba0d22df00147fe6bf749b8ac1d14b1bbdb66227ec9"), looks := false }, kinds := [], alts := [], laidByText := true, laidKinds := [.data, .pinned, .pinned], laidTests := true, laidLooks := .later }
def OctetHexUptoCardSaid : Prop := Claim7.holds Tryd.pinned (.plain (OpenSpec.upto octetHexSpec)) octetHexUptoCard

/-- THE SECOND FORM's CARD OF 'rosterlaw01.OctetEscapes'. -/
def octetEscapesUptoCard : Claim7 := { stood := { row := octetEscapesUptoRow, standIns := [], harness := (true, "87301c43dff1662eee7c4ba0d22df00147fe6bf749b8ac1d14b1bbdb66227ec9"), looks := false }, kinds := [], alts := [], laidByText := true, laidKinds := [.data, .pinned, .pinned], laidTests := true, laidLooks := .later }
def OctetEscapesUptoCardSaid : Prop := Claim7.holds Tryd.pinned (.plain (OpenSpec.upto octetEscapesSpec)) octetEscapesUptoCard

/-- THE SECOND FORM's CARD OF 'rosterlaw01.OctetBase'. -/
def octetBaseUptoCard : Claim7 := { stood := { row := octetBaseUptoRow, standIns := [], harness := (true, "87301c43dff1662eee7c4ba0d22df00147fe6bf749b8ac1d14b1bbdb66227ec9"), looks := false }, kinds := [], alts := [], laidByText := true, laidKinds := [.data, .pinned, .pinned], laidTests := true, laidLooks := .later }
def OctetBaseUptoCardSaid : Prop := Claim7.holds Tryd.pinned (.plain (OpenSpec.upto octetBaseSpec)) octetBaseUptoCard

/-- THE SECOND FORM's CARD OF 'rosterlaw01.OctetNames'. -/
def octetNamesUptoCard : Claim7 := { stood := { row := octetNamesUptoRow, standIns := [], harness := (true, "87301c43dff1662eee7c4ba0d22df00147fe6bf749b8ac1d14b1bbdb66227ec9"), looks := false }, kinds := [], alts := [], laidByText := true, laidKinds := [.data, .pinned, .pinned], laidTests := true, laidLooks := .later }
def OctetNamesUptoCardSaid : Prop := Claim7.holds Tryd.pinned (.plain (OpenSpec.upto octetNamesSpec)) octetNamesUptoCard

/-- THE SECOND FORM's CARD OF 'rosterlaw01.OctetBack'. -/
def octetBackUptoCard : Claim7 := { stood := { row := octetBackUptoRow, standIns := [], harness := (true, "87301c43dff1662eee7c4ba0d22df00147fe6bf749b8ac1d14b1bbdb66227ec9"), looks := false }, kinds := [], alts := [], laidByText := true, laidKinds := [.data, .pinned, .pinned], laidTests := true, laidLooks := .later }
def OctetBackUptoCardSaid : Prop := Claim7.holds Tryd.pinned (.plain (OpenSpec.upto octetBackSpec)) octetBackUptoCard

/-- THE SECOND FORM's CARD OF 'rosterlaw01.OctetOnly'. -/
def octetOnlyUptoCard : Claim7 := { stood := { row := octetOnlyUptoRow, standIns := [], harness := (true, "87301c43dff1662eee7c4ba0d22df00147fe6bf749b8ac1d14b1bbdb66227ec9"), looks := false }, kinds := [], alts := [], laidByText := true, laidKinds := [.data, .pinned, .pinned], laidTests := true, laidLooks := .later }
def OctetOnlyUptoCardSaid : Prop := Claim7.holds Tryd.pinned (.plain (OpenSpec.upto octetOnlySpec)) octetOnlyUptoCard

/-- THE SECOND FORM's CARD OF 'rosterlaw01.OctetPieces'. -/
def octetPiecesUptoCard : Claim7 := { stood := { row := octetPiecesUptoRow, standIns := [], harness := (true, "87301c43dff1662eee7c4ba0d22df00147fe6bf749b8ac1d14b1bbdb66227ec9"), looks := false }, kinds := [], alts := [], laidByText := true, laidKinds := [.data, .pinned, .pinned], laidTests := true, laidLooks := .later }
def OctetPiecesUptoCardSaid : Prop := Claim7.holds Tryd.pinned (.plain (OpenSpec.upto octetPiecesSpec)) octetPiecesUptoCard
end Rows
end Go.Proofs.YtcdnnpbpadhgeaaDoor
