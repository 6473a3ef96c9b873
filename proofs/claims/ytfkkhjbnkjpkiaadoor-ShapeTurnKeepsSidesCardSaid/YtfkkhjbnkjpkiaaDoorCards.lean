/-
  DERIVED. GIVEN WITH THE SEED: THE CARDS: each row of YtfkkhjbnkjpkiaaDoorRows.lean that lists a variable, with what it lists TIED to the program's text (the seventh form; the later family's looks); each row that meets fmt, with fmt's text TOLD by the authors' own Lean function (tested against real Go, not proved from fmt's source: count such statements apart). THE CARD IS WHAT COUNTS. Prove the row's statement (the work); the ties are given (YtfkkhjbnkjpkiaaDoorTie.lean); close each card by the builder's one call (the guide's Derived/Test/ToyasCard.lean, 'card_holds'). Laid BY PROGRAM, IN A SANDBOX (cutbox-door.mjs). By AI agents, Wed Nov 11 2026. No macro, syntax, notation, axiom, sorry.
-/
import Derived.Test.YtfkkhjbnkjpkiaaDoorRows
import GoSem.ClaimSeven
namespace Go.Proofs.YtfkkhjbnkjpkiaaDoor
namespace Rows

/-- THE TIED CARD OF 'chancerykeep3.ShapeTurnKeepsSides'. -/
def shapeTurnKeepsSidesCard : Claim7 := { stood := { row := shapeTurnKeepsSidesRow, standIns := [], harness := (true, "038384753188243b8380e6305f6ef5c815c81c900c9a2bdc26b6c4d25d99471d"), looks := false }, kinds := [], alts := [], laidByText := true, laidKinds := [.data], laidTests := true, laidLooks := .later }
def ShapeTurnKeepsSidesCardSaid : Prop := Claim7.holds Tryd.pinned (.plain (OpenSpec.ofChange shapeTurnKeepsSidesSpec)) shapeTurnKeepsSidesCard

/-- THE TIED CARD OF 'chancerykeep3.ShapeAlignedTwice'. -/
def shapeAlignedTwiceCard : Claim7 := { stood := { row := shapeAlignedTwiceRow, standIns := [], harness := (true, "038384753188243b8380e6305f6ef5c815c81c900c9a2bdc26b6c4d25d99471d"), looks := false }, kinds := [], alts := [], laidByText := true, laidKinds := [.data], laidTests := true, laidLooks := .later }
def ShapeAlignedTwiceCardSaid : Prop := Claim7.holds Tryd.pinned (.plain (OpenSpec.ofChange shapeAlignedTwiceSpec)) shapeAlignedTwiceCard

/-- THE TIED CARD OF 'chancerykeep3.ShapeGroupStays'. -/
def shapeGroupStaysCard : Claim7 := { stood := { row := shapeGroupStaysRow, standIns := [], harness := (true, "038384753188243b8380e6305f6ef5c815c81c900c9a2bdc26b6c4d25d99471d"), looks := false }, kinds := [], alts := [], laidByText := true, laidKinds := [.data], laidTests := true, laidLooks := .later }
def ShapeGroupStaysCardSaid : Prop := Claim7.holds Tryd.pinned (.plain (OpenSpec.ofChange shapeGroupStaysSpec)) shapeGroupStaysCard

/-- THE SECOND FORM's CARD OF 'chancerykeep3.ShapeTurnKeepsSides'. -/
def shapeTurnKeepsSidesUptoCard : Claim7 := { stood := { row := shapeTurnKeepsSidesUptoRow, standIns := [], harness := (true, "038384753188243b8380e6305f6ef5c815c81c900c9a2bdc26b6c4d25d99471d"), looks := false }, kinds := [], alts := [], laidByText := true, laidKinds := [.data], laidTests := true, laidLooks := .later }
def ShapeTurnKeepsSidesUptoCardSaid : Prop := Claim7.holds Tryd.pinned (.plain (OpenSpec.upto shapeTurnKeepsSidesSpec)) shapeTurnKeepsSidesUptoCard

/-- THE SECOND FORM's CARD OF 'chancerykeep3.ShapeAlignedTwice'. -/
def shapeAlignedTwiceUptoCard : Claim7 := { stood := { row := shapeAlignedTwiceUptoRow, standIns := [], harness := (true, "038384753188243b8380e6305f6ef5c815c81c900c9a2bdc26b6c4d25d99471d"), looks := false }, kinds := [], alts := [], laidByText := true, laidKinds := [.data], laidTests := true, laidLooks := .later }
def ShapeAlignedTwiceUptoCardSaid : Prop := Claim7.holds Tryd.pinned (.plain (OpenSpec.upto shapeAlignedTwiceSpec)) shapeAlignedTwiceUptoCard

/-- THE SECOND FORM's CARD OF 'chancerykeep3.ShapeGroupStays'. -/
def shapeGroupStaysUptoCard : Claim7 := { stood := { row := shapeGroupStaysUptoRow, standIns := [], harness := (true, "038384753188243b8380e6305f6ef5c815c81c900c9a2bdc26b6c4d25d99471d"), looks := false }, kinds := [], alts := [], laidByText := true, laidKinds := [.data], laidTests := true, laidLooks := .later }
def ShapeGroupStaysUptoCardSaid : Prop := Claim7.holds Tryd.pinned (.plain (OpenSpec.upto shapeGroupStaysSpec)) shapeGroupStaysUptoCard
end Rows
end Go.Proofs.YtfkkhjbnkjpkiaaDoor
