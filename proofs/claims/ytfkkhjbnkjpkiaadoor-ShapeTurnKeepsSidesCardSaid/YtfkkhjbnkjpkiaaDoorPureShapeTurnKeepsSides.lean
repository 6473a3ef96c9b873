/- The plain statement of ShapeTurnKeepsSides over its plain values: the laid table is the one that the evaluator's word speaks of. No condition beyond the row's own. -/
import Derived.Test.YtfkkhjbnkjpkiaaDoorTypShapeTurnKeepsSides
namespace Go.Proofs.YtfkkhjbnkjpkiaaDoor.Pure
open Go.Proofs.YtfkkhjbnkjpkiaaDoor.QEvTK
theorem ShapeTurnKeepsSides : ShapeTurnKeepsSides_Pure := by
  unfold ShapeTurnKeepsSides_Pure
  intros
  unfold ck_ShapeTurnKeepsSides.f
  rw [if_pos (by rfl)]
end Go.Proofs.YtfkkhjbnkjpkiaaDoor.Pure
