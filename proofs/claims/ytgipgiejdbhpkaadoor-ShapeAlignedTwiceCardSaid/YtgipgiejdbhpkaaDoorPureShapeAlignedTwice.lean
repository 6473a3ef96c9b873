/- The plain statement of ShapeAlignedTwice over its plain values: the laid table is the one that the evaluator's word speaks of, and a row's length is a whole number of the machine. No condition beyond the row's own. -/
import Derived.Test.YtgipgiejdbhpkaaDoorTypShapeAlignedTwice
namespace Go.Proofs.YtgipgiejdbhpkaaDoor.Pure
open Go.Proofs.YtgipgiejdbhpkaaDoor.QEvAT
theorem ShapeAlignedTwice : ShapeAlignedTwice_Pure := by
  unfold ShapeAlignedTwice_Pure
  intro l0 l1 a2 h0 h1 h2
  unfold ck_ShapeAlignedTwice.f
  rw [if_pos ⟨rfl, h1.2⟩]
end Go.Proofs.YtgipgiejdbhpkaaDoor.Pure
