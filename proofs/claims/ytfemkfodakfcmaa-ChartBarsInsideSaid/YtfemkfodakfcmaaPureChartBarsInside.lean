/- The plain statement of ChartBarsInside over its plain values: the evaluator's word is that it answers true. No condition beyond the row's own. -/
import Derived.Test.YtfemkfodakfcmaaTypChartBarsInside
namespace Go.Proofs.Ytfemkfodakfcmaa.Pure
open Go.Proofs.Ytfemkfodakfcmaa.QEvCB
theorem ChartBarsInside : ChartBarsInside_Pure := by
  unfold ChartBarsInside_Pure
  intros
  rfl
end Go.Proofs.Ytfemkfodakfcmaa.Pure
