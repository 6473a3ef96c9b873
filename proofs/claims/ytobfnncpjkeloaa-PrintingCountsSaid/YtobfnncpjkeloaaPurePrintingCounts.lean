/- The plain statement of PrintingCounts over its plain values: the evaluator's word is that it answers true. No condition beyond the row's own. -/
import Derived.Test.YtobfnncpjkeloaaTypPrintingCounts
namespace Go.Proofs.Ytobfnncpjkeloaa.Pure
open Go.Proofs.Ytobfnncpjkeloaa.QEvPC
theorem PrintingCounts : PrintingCounts_Pure := by
  unfold PrintingCounts_Pure
  intros
  rfl
end Go.Proofs.Ytobfnncpjkeloaa.Pure
