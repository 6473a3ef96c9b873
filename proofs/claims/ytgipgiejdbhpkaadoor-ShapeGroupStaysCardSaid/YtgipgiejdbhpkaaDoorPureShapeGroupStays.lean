/- The plain statement of ShapeGroupStays over its plain values: the laid table is the one that the evaluator's word speaks of, and a row's length is a whole number of the machine. No condition beyond the row's own. -/
import Derived.Test.YtgipgiejdbhpkaaDoorTypShapeGroupStays
namespace Go.Proofs.YtgipgiejdbhpkaaDoor.Pure
open Go.Proofs.YtgipgiejdbhpkaaDoor.QEvGS
theorem ShapeGroupStays : ShapeGroupStays_Pure := by
  intro l0 l1 h0 h1
  unfold ck_ShapeGroupStays.f
  rw [if_pos ⟨rfl, h1.2⟩]
end Go.Proofs.YtgipgiejdbhpkaaDoor.Pure
