/- The plain statement of TimelineOverAtEnd over its plain values: the evaluator's word is that it answers true. No condition beyond the row's own. -/
import Derived.Test.YtlhgmlfhlbmjpaaTypTimelineOverAtEnd
namespace Go.Proofs.Ytlhgmlfhlbmjpaa.Pure
open Go.Proofs.Ytlhgmlfhlbmjpaa.QEvTl
theorem TimelineOverAtEnd : TimelineOverAtEnd_Pure := by
  unfold TimelineOverAtEnd_Pure
  intros
  rfl
end Go.Proofs.Ytlhgmlfhlbmjpaa.Pure
