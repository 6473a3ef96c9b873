/-
  DERIVED. GIVEN WITH THE SEED: THE CARDS: each row of YtfemkfodakfcmaaDoorRows.lean that lists a variable, with what it lists TIED to the program's text (the seventh form; the later family's looks); each row that meets fmt, with fmt's text TOLD by the authors' own Lean function (tested against real Go, not proved from fmt's source: count such statements apart). THE CARD IS WHAT COUNTS. Prove the row's statement (the work); the ties are given (YtfemkfodakfcmaaDoorTie.lean); close each card by the builder's one call (the guide's Derived/Test/ToyasCard.lean, 'card_holds'). Laid BY PROGRAM, IN A SANDBOX (cutbox-door.mjs). By AI agents, Wed Nov 11 2026. No macro, syntax, notation, axiom, sorry.
-/
import Derived.Test.YtfemkfodakfcmaaDoorRows
import GoSem.ClaimSeven
namespace Go.Proofs.YtfemkfodakfcmaaDoor
namespace Rows

/-- THE TIED CARD OF 'chancerykeep3.MetricFixedAlike'. -/
def metricFixedAlikeCard : Claim7 := { stood := { row := metricFixedAlikeRow, standIns := [], harness := (true, "2b15cfb64697e5cf9c188776573029af4f6e71fafe14e52c890bc9ceff45b1f6"), looks := false }, kinds := [], alts := [], laidByText := true, laidKinds := [.widerDeep, .widerDeep], laidTests := true, laidLooks := .later }
def MetricFixedAlikeCardSaid : Prop := Claim7.holds Tryd.pinned (.plain (OpenSpec.ofChange metricFixedAlikeSpec)) metricFixedAlikeCard

/-- THE TIED CARD OF 'chancerykeep3.ShapeQuarterTurns'. -/
def shapeQuarterTurnsCard : Claim7 := { stood := { row := shapeQuarterTurnsRow, standIns := [], harness := (true, "2b15cfb64697e5cf9c188776573029af4f6e71fafe14e52c890bc9ceff45b1f6"), looks := false }, kinds := [], alts := [], laidByText := true, laidKinds := [.data], laidTests := true, laidLooks := .later }
def ShapeQuarterTurnsCardSaid : Prop := Claim7.holds Tryd.pinned (.plain (OpenSpec.ofChange shapeQuarterTurnsSpec)) shapeQuarterTurnsCard

/-- THE TIED CARD OF 'chancerykeep3.ShapeHitMiddle'. -/
def shapeHitMiddleCard : Claim7 := { stood := { row := shapeHitMiddleRow, standIns := [], harness := (true, "2b15cfb64697e5cf9c188776573029af4f6e71fafe14e52c890bc9ceff45b1f6"), looks := false }, kinds := [], alts := [], laidByText := true, laidKinds := [.data], laidTests := true, laidLooks := .later }
def ShapeHitMiddleCardSaid : Prop := Claim7.holds Tryd.pinned (.plain (OpenSpec.ofChange shapeHitMiddleSpec)) shapeHitMiddleCard

/-- THE TIED CARD OF 'chancerykeep3.ShapeUngroupTurned'. -/
def shapeUngroupTurnedCard : Claim7 := { stood := { row := shapeUngroupTurnedRow, standIns := [], harness := (true, "2b15cfb64697e5cf9c188776573029af4f6e71fafe14e52c890bc9ceff45b1f6"), looks := false }, kinds := [], alts := [], laidByText := true, laidKinds := [.data], laidTests := true, laidLooks := .later }
def ShapeUngroupTurnedCardSaid : Prop := Claim7.holds Tryd.pinned (.plain (OpenSpec.ofChange shapeUngroupTurnedSpec)) shapeUngroupTurnedCard

/-- THE SECOND FORM's CARD OF 'chancerykeep3.MetricFixedAlike'. -/
def metricFixedAlikeUptoCard : Claim7 := { stood := { row := metricFixedAlikeUptoRow, standIns := [], harness := (true, "2b15cfb64697e5cf9c188776573029af4f6e71fafe14e52c890bc9ceff45b1f6"), looks := false }, kinds := [], alts := [], laidByText := true, laidKinds := [.widerDeep, .widerDeep], laidTests := true, laidLooks := .later }
def MetricFixedAlikeUptoCardSaid : Prop := Claim7.holds Tryd.pinned (.plain (OpenSpec.upto metricFixedAlikeSpec)) metricFixedAlikeUptoCard

/-- THE SECOND FORM's CARD OF 'chancerykeep3.ShapeQuarterTurns'. -/
def shapeQuarterTurnsUptoCard : Claim7 := { stood := { row := shapeQuarterTurnsUptoRow, standIns := [], harness := (true, "2b15cfb64697e5cf9c188776573029af4f6e71fafe14e52c890bc9ceff45b1f6"), looks := false }, kinds := [], alts := [], laidByText := true, laidKinds := [.data], laidTests := true, laidLooks := .later }
def ShapeQuarterTurnsUptoCardSaid : Prop := Claim7.holds Tryd.pinned (.plain (OpenSpec.upto shapeQuarterTurnsSpec)) shapeQuarterTurnsUptoCard

/-- THE SECOND FORM's CARD OF 'chancerykeep3.ShapeHitMiddle'. -/
def shapeHitMiddleUptoCard : Claim7 := { stood := { row := shapeHitMiddleUptoRow, standIns := [], harness := (true, "2b15cfb64697e5cf9c188776573029af4f6e71fafe14e52c890bc9ceff45b1f6"), looks := false }, kinds := [], alts := [], laidByText := true, laidKinds := [.data], laidTests := true, laidLooks := .later }
def ShapeHitMiddleUptoCardSaid : Prop := Claim7.holds Tryd.pinned (.plain (OpenSpec.upto shapeHitMiddleSpec)) shapeHitMiddleUptoCard

/-- THE SECOND FORM's CARD OF 'chancerykeep3.ShapeUngroupTurned'. -/
def shapeUngroupTurnedUptoCard : Claim7 := { stood := { row := shapeUngroupTurnedUptoRow, standIns := [], harness := (true, "2b15cfb64697e5cf9c188776573029af4f6e71fafe14e52c890bc9ceff45b1f6"), looks := false }, kinds := [], alts := [], laidByText := true, laidKinds := [.data], laidTests := true, laidLooks := .later }
def ShapeUngroupTurnedUptoCardSaid : Prop := Claim7.holds Tryd.pinned (.plain (OpenSpec.upto shapeUngroupTurnedSpec)) shapeUngroupTurnedUptoCard
end Rows
end Go.Proofs.YtfemkfodakfcmaaDoor
