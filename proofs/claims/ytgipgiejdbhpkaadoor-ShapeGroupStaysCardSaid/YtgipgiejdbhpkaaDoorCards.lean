/-
  DERIVED. GIVEN WITH THE SEED: THE CARDS: each row of YtgipgiejdbhpkaaDoorRows.lean that lists a variable, with what it lists TIED to the program's text (the seventh form; the later family's looks); each row that meets fmt, with fmt's text TOLD by the authors' own Lean function (tested against real Go, not proved from fmt's source: count such statements apart). THE CARD IS WHAT COUNTS. Prove the row's statement (the work); the ties are given (YtgipgiejdbhpkaaDoorTie.lean); close each card by the builder's one call (the guide's Derived/Test/ToyasCard.lean, 'card_holds'). Laid BY PROGRAM, IN A SANDBOX (cutbox-door.mjs). By AI agents, Wed Nov 11 2026. No macro, syntax, notation, axiom, sorry.
-/
import Derived.Test.YtgipgiejdbhpkaaDoorRows
import GoSem.ClaimSeven
namespace Go.Proofs.YtgipgiejdbhpkaaDoor
namespace Rows

/-- THE TIED CARD OF 'chancerykeep3.ShapeUngroupTurned'. -/
def shapeUngroupTurnedCard : Claim7 := { stood := { row := shapeUngroupTurnedRow, standIns := [], harness := (true, "0c89232074cb5935d2918f1bdc424f47613d0f4c45ca9ca45e1d4588ef6ec385"), looks := false }, kinds := [], alts := [], laidByText := true, laidKinds := [.data], laidTests := true, laidLooks := .later }
def ShapeUngroupTurnedCardSaid : Prop := Claim7.holds Tryd.pinned (.plain (OpenSpec.ofChange shapeUngroupTurnedSpec)) shapeUngroupTurnedCard

/-- THE TIED CARD OF 'chancerykeep3.ShapeAlignedTwice'. -/
def shapeAlignedTwiceCard : Claim7 := { stood := { row := shapeAlignedTwiceRow, standIns := [], harness := (true, "0c89232074cb5935d2918f1bdc424f47613d0f4c45ca9ca45e1d4588ef6ec385"), looks := false }, kinds := [], alts := [], laidByText := true, laidKinds := [.data], laidTests := true, laidLooks := .later }
def ShapeAlignedTwiceCardSaid : Prop := Claim7.holds Tryd.pinned (.plain (OpenSpec.ofChange shapeAlignedTwiceSpec)) shapeAlignedTwiceCard

/-- THE TIED CARD OF 'chancerykeep3.ShapeGroupStays'. -/
def shapeGroupStaysCard : Claim7 := { stood := { row := shapeGroupStaysRow, standIns := [], harness := (true, "0c89232074cb5935d2918f1bdc424f47613d0f4c45ca9ca45e1d4588ef6ec385"), looks := false }, kinds := [], alts := [], laidByText := true, laidKinds := [.data], laidTests := true, laidLooks := .later }
def ShapeGroupStaysCardSaid : Prop := Claim7.holds Tryd.pinned (.plain (OpenSpec.ofChange shapeGroupStaysSpec)) shapeGroupStaysCard

/-- THE SECOND FORM's CARD OF 'chancerykeep3.ShapeUngroupTurned'. -/
def shapeUngroupTurnedUptoCard : Claim7 := { stood := { row := shapeUngroupTurnedUptoRow, standIns := [], harness := (true, "0c89232074cb5935d2918f1bdc424f47613d0f4c45ca9ca45e1d4588ef6ec385"), looks := false }, kinds := [], alts := [], laidByText := true, laidKinds := [.data], laidTests := true, laidLooks := .later }
def ShapeUngroupTurnedUptoCardSaid : Prop := Claim7.holds Tryd.pinned (.plain (OpenSpec.upto shapeUngroupTurnedSpec)) shapeUngroupTurnedUptoCard

/-- THE SECOND FORM's CARD OF 'chancerykeep3.ShapeAlignedTwice'. -/
def shapeAlignedTwiceUptoCard : Claim7 := { stood := { row := shapeAlignedTwiceUptoRow, standIns := [], harness := (true, "0c89232074cb5935d2918f1bdc424f47613d0f4c45ca9ca45e1d4588ef6ec385"), looks := false }, kinds := [], alts := [], laidByText := true, laidKinds := [.data], laidTests := true, laidLooks := .later }
def ShapeAlignedTwiceUptoCardSaid : Prop := Claim7.holds Tryd.pinned (.plain (OpenSpec.upto shapeAlignedTwiceSpec)) shapeAlignedTwiceUptoCard

/-- THE SECOND FORM's CARD OF 'chancerykeep3.ShapeGroupStays'. -/
def shapeGroupStaysUptoCard : Claim7 := { stood := { row := shapeGroupStaysUptoRow, standIns := [], harness := (true, "0c89232074cb5935d2918f1bdc424f47613d0f4c45ca9ca45e1d4588ef6ec385"), looks := false }, kinds := [], alts := [], laidByText := true, laidKinds := [.data], laidTests := true, laidLooks := .later }
def ShapeGroupStaysUptoCardSaid : Prop := Claim7.holds Tryd.pinned (.plain (OpenSpec.upto shapeGroupStaysSpec)) shapeGroupStaysUptoCard
end Rows
end Go.Proofs.YtgipgiejdbhpkaaDoor
