/-
  DERIVED. GIVEN WITH THE SEED: THE CARDS: each row of YthdkgilpnkabmaaGreatDoorRows.lean that lists a variable, with what it lists TIED to the program's text (the seventh form; the later family's looks); each row that meets fmt, with fmt's text TOLD by the authors' own Lean function (tested against real Go, not proved from fmt's source: count such statements apart). THE CARD IS WHAT COUNTS. Prove the row's statement (the work); the ties are given (YthdkgilpnkabmaaGreatDoorTie.lean); close each card by the builder's one call (the guide's Derived/Test/ToyasCard.lean, 'card_holds'). Laid BY PROGRAM, IN A SANDBOX (cutbox-door.mjs). By AI agents, Wed Nov 11 2026. No macro, syntax, notation, axiom, sorry.
-/
import Derived.Test.YthdkgilpnkabmaaGreatDoorRows
import GoSem.ClaimSeven
namespace Go.Proofs.YthdkgilpnkabmaaGreatDoor
namespace Rows

/-- THE TIED CARD OF 'spoorlaw09.StoreOrder'. -/
def storeOrderCard : Claim7 := { stood := { row := storeOrderRow, standIns := [], harness := (true, "fed0cdcc4ee9ccc9f18c1e4710ecc9aaf8fa4b4e841040f9ee5d55a92f694714"), looks := false }, kinds := [], alts := [], laidByText := true, laidKinds := [.data, .pinned], laidTests := true, laidLooks := .later }
def StoreOrderCardSaid : Prop := Claim7.holds Tryz.pinned (.plain (OpenSpec.ofChange storeOrderSpec)) storeOrderCard

/-- THE TIED CARD OF 'spoorlaw09.StoreChanges'. -/
def storeChangesCard : Claim7 := { stood := { row := storeChangesRow, standIns := [], harness := (true, "fed0cdcc4ee9ccc9f18c1e4710ecc9aaf8fa4b4e841040f9ee5d55a92f694714"), looks := false }, kinds := [], alts := [], laidByText := true, laidKinds := [.data, .pinned], laidTests := true, laidLooks := .later }
def StoreChangesCardSaid : Prop := Claim7.holds Tryz.pinned (.plain (OpenSpec.ofChange storeChangesSpec)) storeChangesCard

/-- THE TIED CARD OF 'spoorlaw09.StorePlays'. -/
def storePlaysCard : Claim7 := { stood := { row := storePlaysRow, standIns := [], harness := (true, "fed0cdcc4ee9ccc9f18c1e4710ecc9aaf8fa4b4e841040f9ee5d55a92f694714"), looks := false }, kinds := [], alts := [], laidByText := true, laidKinds := [.data, .pinned], laidTests := true, laidLooks := .later }
def StorePlaysCardSaid : Prop := Claim7.holds Tryz.pinned (.plain (OpenSpec.ofChange storePlaysSpec)) storePlaysCard

/-- THE TIED CARD OF 'spoorlaw09.StoreMerged'. -/
def storeMergedCard : Claim7 := { stood := { row := storeMergedRow, standIns := [], harness := (true, "fed0cdcc4ee9ccc9f18c1e4710ecc9aaf8fa4b4e841040f9ee5d55a92f694714"), looks := false }, kinds := [], alts := [], laidByText := true, laidKinds := [.data, .pinned], laidTests := true, laidLooks := .later }
def StoreMergedCardSaid : Prop := Claim7.holds Tryz.pinned (.plain (OpenSpec.ofChange storeMergedSpec)) storeMergedCard

/-- THE SECOND FORM's CARD OF 'spoorlaw09.StoreOrder'. -/
def storeOrderUptoCard : Claim7 := { stood := { row := storeOrderUptoRow, standIns := [], harness := (true, "fed0cdcc4ee9ccc9f18c1e4710ecc9aaf8fa4b4e841040f9ee5d55a92f694714"), looks := false }, kinds := [], alts := [], laidByText := true, laidKinds := [.data, .pinned], laidTests := true, laidLooks := .later }
def StoreOrderUptoCardSaid : Prop := Claim7.holds Tryz.pinned (.plain (OpenSpec.upto storeOrderSpec)) storeOrderUptoCard

/-- THE SECOND FORM's CARD OF 'spoorlaw09.StoreChanges'. -/
def storeChangesUptoCard : Claim7 := { stood := { row := storeChangesUptoRow, standIns := [], harness := (true, "fed0cdcc4ee9ccc9f18c1e4710ecc9aaf8fa4b4e841040f9ee5d55a92f694714"), looks := false }, kinds := [], alts := [], laidByText := true, laidKinds := [.data, .pinned], laidTests := true, laidLooks := .later }
def StoreChangesUptoCardSaid : Prop := Claim7.holds Tryz.pinned (.plain (OpenSpec.upto storeChangesSpec)) storeChangesUptoCard

/-- THE SECOND FORM's CARD OF 'spoorlaw09.StorePlays'. -/
def storePlaysUptoCard : Claim7 := { stood := { row := storePlaysUptoRow, standIns := [], harness := (true, "fed0cdcc4ee9ccc9f18c1e4710ecc9aaf8fa4b4e841040f9ee5d55a92f694714"), looks := false }, kinds := [], alts := [], laidByText := true, laidKinds := [.data, .pinned], laidTests := true, laidLooks := .later }
def StorePlaysUptoCardSaid : Prop := Claim7.holds Tryz.pinned (.plain (OpenSpec.upto storePlaysSpec)) storePlaysUptoCard

/-- THE SECOND FORM's CARD OF 'spoorlaw09.StoreMerged'. -/
def storeMergedUptoCard : Claim7 := { stood := { row := storeMergedUptoRow, standIns := [], harness := (true, "fed0cdcc4ee9ccc9f18c1e4710ecc9aaf8fa4b4e841040f9ee5d55a92f694714"), looks := false }, kinds := [], alts := [], laidByText := true, laidKinds := [.data, .pinned], laidTests := true, laidLooks := .later }
def StoreMergedUptoCardSaid : Prop := Claim7.holds Tryz.pinned (.plain (OpenSpec.upto storeMergedSpec)) storeMergedUptoCard
end Rows
end Go.Proofs.YthdkgilpnkabmaaGreatDoor
