/-
  DERIVED. GIVEN WITH THE SEED: THE CARDS: each row of YtcklnjjbhngbcaaGreatDoorRows.lean that lists a variable, with what it lists TIED to the program's text (the seventh form; the later family's looks); each row that meets fmt, with fmt's text TOLD by the authors' own Lean function (tested against real Go, not proved from fmt's source: count such statements apart). THE CARD IS WHAT COUNTS. Prove the row's statement (the work); the ties are given (YtcklnjjbhngbcaaGreatDoorTie.lean); close each card by the builder's one call (the guide's Derived/Test/ToyasCard.lean, 'card_holds'). Laid BY PROGRAM, IN A SANDBOX (cutbox-door.mjs). By AI agents, Wed Nov 11 2026. No macro, syntax, notation, axiom, sorry.
-/
import Derived.Test.YtcklnjjbhngbcaaGreatDoorRows
import GoSem.ClaimSeven
namespace Go.Proofs.YtcklnjjbhngbcaaGreatDoor
namespace Rows

/-- THE TIED CARD OF 'laws.FnTop'. -/
def fnTopCard : Claim7 := { stood := { row := fnTopRow, standIns := [], harness := (true, "a29501dc3719d7d59347b621939e9ce513579e57a110c9faebdddb7ba5a1c330"), looks := true }, kinds := [], alts := [], laidByText := true, laidKinds := [.data, .data, .data, .handle], laidTests := true, laidLooks := .later }
def FnTopCardSaid : Prop := Claim7.holds Tryz.pinned (.plain (OpenSpec.ofChange fnTopSpec)) fnTopCard

/-- THE TIED CARD OF 'laws.FnUndo'. -/
def fnUndoCard : Claim7 := { stood := { row := fnUndoRow, standIns := [], harness := (true, "a29501dc3719d7d59347b621939e9ce513579e57a110c9faebdddb7ba5a1c330"), looks := true }, kinds := [], alts := [], laidByText := true, laidKinds := [.handle], laidTests := true, laidLooks := .later }
def FnUndoCardSaid : Prop := Claim7.holds Tryz.pinned (.plain (OpenSpec.ofChange fnUndoSpec)) fnUndoCard

/-- THE TIED CARD OF 'laws.FnExactLook'. -/
def fnExactLookCard : Claim7 := { stood := { row := fnExactLookRow, standIns := [], harness := (true, "a29501dc3719d7d59347b621939e9ce513579e57a110c9faebdddb7ba5a1c330"), looks := true }, kinds := [], alts := [], laidByText := true, laidKinds := [.handle], laidTests := true, laidLooks := .later }
def FnExactLookCardSaid : Prop := Claim7.holds Tryz.pinned (.plain (OpenSpec.ofChange fnExactLookSpec)) fnExactLookCard

/-- THE TIED CARD OF 'laws.FnSpoilt'. -/
def fnSpoiltCard : Claim7 := { stood := { row := fnSpoiltRow, standIns := [], harness := (true, "a29501dc3719d7d59347b621939e9ce513579e57a110c9faebdddb7ba5a1c330"), looks := true }, kinds := [], alts := [], laidByText := true, laidKinds := [.data, .data, .data, .handle], laidTests := true, laidLooks := .later }
def FnSpoiltCardSaid : Prop := Claim7.holds Tryz.pinned (.plain (OpenSpec.ofChange fnSpoiltSpec)) fnSpoiltCard

/-- THE SECOND FORM's CARD OF 'laws.FnTop'. -/
def fnTopUptoCard : Claim7 := { stood := { row := fnTopUptoRow, standIns := [], harness := (true, "a29501dc3719d7d59347b621939e9ce513579e57a110c9faebdddb7ba5a1c330"), looks := true }, kinds := [], alts := [], laidByText := true, laidKinds := [.data, .data, .data, .handle], laidTests := true, laidLooks := .later }
def FnTopUptoCardSaid : Prop := Claim7.holds Tryz.pinned (.plain (OpenSpec.upto fnTopSpec)) fnTopUptoCard

/-- THE SECOND FORM's CARD OF 'laws.FnUndo'. -/
def fnUndoUptoCard : Claim7 := { stood := { row := fnUndoUptoRow, standIns := [], harness := (true, "a29501dc3719d7d59347b621939e9ce513579e57a110c9faebdddb7ba5a1c330"), looks := true }, kinds := [], alts := [], laidByText := true, laidKinds := [.handle], laidTests := true, laidLooks := .later }
def FnUndoUptoCardSaid : Prop := Claim7.holds Tryz.pinned (.plain (OpenSpec.upto fnUndoSpec)) fnUndoUptoCard

/-- THE SECOND FORM's CARD OF 'laws.FnExactLook'. -/
def fnExactLookUptoCard : Claim7 := { stood := { row := fnExactLookUptoRow, standIns := [], harness := (true, "a29501dc3719d7d59347b621939e9ce513579e57a110c9faebdddb7ba5a1c330"), looks := true }, kinds := [], alts := [], laidByText := true, laidKinds := [.handle], laidTests := true, laidLooks := .later }
def FnExactLookUptoCardSaid : Prop := Claim7.holds Tryz.pinned (.plain (OpenSpec.upto fnExactLookSpec)) fnExactLookUptoCard

/-- THE SECOND FORM's CARD OF 'laws.FnSpoilt'. -/
def fnSpoiltUptoCard : Claim7 := { stood := { row := fnSpoiltUptoRow, standIns := [], harness := (true, "a29501dc3719d7d59347b621939e9ce513579e57a110c9faebdddb7ba5a1c330"), looks := true }, kinds := [], alts := [], laidByText := true, laidKinds := [.data, .data, .data, .handle], laidTests := true, laidLooks := .later }
def FnSpoiltUptoCardSaid : Prop := Claim7.holds Tryz.pinned (.plain (OpenSpec.upto fnSpoiltSpec)) fnSpoiltUptoCard
end Rows
end Go.Proofs.YtcklnjjbhngbcaaGreatDoor
