/- The plain statement of TimelineForthAndBack over its plain values: the evaluator's word is that it answers true. No condition beyond the row's own. -/
import Derived.Test.YtlhgmlfhlbmjpaaTypTimelineForthAndBack
namespace Go.Proofs.Ytlhgmlfhlbmjpaa.Pure
open Go.Proofs.Ytlhgmlfhlbmjpaa.QEvFB
theorem TimelineForthAndBack : TimelineForthAndBack_Pure := by
  unfold TimelineForthAndBack_Pure
  intros
  rfl
end Go.Proofs.Ytlhgmlfhlbmjpaa.Pure
