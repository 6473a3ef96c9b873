/- The plain statement of ShapeQuarterTurns over its plain values: the laid table is the one that the evaluator's word speaks of. No condition beyond the row's own. -/
import Derived.Test.YtfemkfodakfcmaaDoorTypShapeQuarterTurns
namespace Go.Proofs.YtfemkfodakfcmaaDoor.Pure
open Go.Proofs.YtfemkfodakfcmaaDoor.QEvQT
theorem ShapeQuarterTurns : ShapeQuarterTurns_Pure := by
  unfold ShapeQuarterTurns_Pure
  intros
  unfold ck_ShapeQuarterTurns.f
  rw [if_pos (by rfl)]
end Go.Proofs.YtfemkfodakfcmaaDoor.Pure
