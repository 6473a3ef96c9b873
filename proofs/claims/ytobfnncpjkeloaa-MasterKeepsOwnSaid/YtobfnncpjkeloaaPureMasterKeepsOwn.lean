/- The plain statement of MasterKeepsOwn over its plain values: the evaluator's word is that it answers true. No condition beyond the row's own. -/
import Derived.Test.YtobfnncpjkeloaaTypMasterKeepsOwn
namespace Go.Proofs.Ytobfnncpjkeloaa.Pure
open Go.Proofs.Ytobfnncpjkeloaa.QEvMK
theorem MasterKeepsOwn : MasterKeepsOwn_Pure := by
  unfold MasterKeepsOwn_Pure
  intros
  rfl
end Go.Proofs.Ytobfnncpjkeloaa.Pure
