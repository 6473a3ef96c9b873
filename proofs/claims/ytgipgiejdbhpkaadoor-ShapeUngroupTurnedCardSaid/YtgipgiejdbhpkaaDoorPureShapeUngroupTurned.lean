/- The plain statement of ShapeUngroupTurned over its plain values: the laid table is the one that the evaluator's word speaks of. No condition beyond the row's own. -/
import Derived.Test.YtgipgiejdbhpkaaDoorTypShapeUngroupTurned
namespace Go.Proofs.YtgipgiejdbhpkaaDoor.Pure
open Go.Proofs.YtgipgiejdbhpkaaDoor.QEvUT
theorem ShapeUngroupTurned : ShapeUngroupTurned_Pure := by
  unfold ShapeUngroupTurned_Pure
  intros
  unfold ck_ShapeUngroupTurned.f
  rw [if_pos (by rfl)]
end Go.Proofs.YtgipgiejdbhpkaaDoor.Pure
