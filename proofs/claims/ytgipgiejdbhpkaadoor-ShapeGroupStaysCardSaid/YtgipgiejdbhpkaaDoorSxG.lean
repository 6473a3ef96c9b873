import Derived.Test.YtgipgiejdbhpkaaDoorSxF
namespace Go.Proofs.YtgipgiejdbhpkaaDoor.Sh
open Go Go.RowKit Go.Proofs.YtgipgiejdbhpkaaDoor.Ev Go.Proofs.Tryd
set_option maxRecDepth 1000000
set_option linter.unusedVariables false
/-! turned: are shapes turned at all? -/
noncomputable def T1 : Orac := upM (callF prog gl noD 12 O3)
noncomputable def T2 : Orac := upM (callF prog gl noD 12 T1)
noncomputable def T3 : Orac := upM (callF prog gl noD 12 T2)
noncomputable def T4 : Orac := upM (callF prog gl noD 12 T3)
noncomputable def T5 : Orac := upM (callF prog gl noD 12 T4)
theorem sT5 : Sound prog gl T5 := callF_ok (callF_ok (callF_ok (callF_ok (callF_ok sO3 mo 12) mo 12) mo 12) mo 12) mo 12
theorem tst_raw  : callF prog gl noD 12 T5 0 6 [] [] = (some ((PV.one (PS.bool true), []))) := by kernel_rfl
end Go.Proofs.YtgipgiejdbhpkaaDoor.Sh
