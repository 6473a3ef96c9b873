/- The plain statement of ChartStackedHeights over its plain values: the evaluator's word is that it answers true. No condition beyond the row's own. -/
import Derived.Test.YtfemkfodakfcmaaTypChartStackedHeights
namespace Go.Proofs.Ytfemkfodakfcmaa.Pure
open Go.Proofs.Ytfemkfodakfcmaa.QEvCB
theorem ChartStackedHeights : ChartStackedHeights_Pure := by
  unfold ChartStackedHeights_Pure
  intros
  rfl
end Go.Proofs.Ytfemkfodakfcmaa.Pure
