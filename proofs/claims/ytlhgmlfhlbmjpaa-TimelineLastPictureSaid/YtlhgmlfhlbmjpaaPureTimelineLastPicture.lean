/- The plain statement of TimelineLastPicture over its plain values: the evaluator's word is that it answers true. No condition beyond the row's own. -/
import Derived.Test.YtlhgmlfhlbmjpaaTypTimelineLastPicture
namespace Go.Proofs.Ytlhgmlfhlbmjpaa.Pure
open Go.Proofs.Ytlhgmlfhlbmjpaa.QEvLP
theorem TimelineLastPicture : TimelineLastPicture_Pure := by
  unfold TimelineLastPicture_Pure
  intros
  rfl
end Go.Proofs.Ytlhgmlfhlbmjpaa.Pure
