/- The plain statement of ShapeHitMiddle over its plain values: the laid table is the one that the evaluator's word speaks of. No condition beyond the row's own. -/
import Derived.Test.YtfemkfodakfcmaaDoorTypShapeHitMiddle
namespace Go.Proofs.YtfemkfodakfcmaaDoor.Pure
open Go.Proofs.YtfemkfodakfcmaaDoor.QEvHM
theorem ShapeHitMiddle : ShapeHitMiddle_Pure := by
  unfold ShapeHitMiddle_Pure
  intros
  unfold ck_ShapeHitMiddle.f
  rw [if_pos (by rfl)]
end Go.Proofs.YtfemkfodakfcmaaDoor.Pure
