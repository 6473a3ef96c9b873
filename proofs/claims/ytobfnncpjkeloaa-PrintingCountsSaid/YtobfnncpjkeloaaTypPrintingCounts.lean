/- How the arguments of PrintingCounts open, and its statement over plain values (PrintingCounts_Pure). No condition beyond the kinds of the arguments. -/
import Derived.Test.YtobfnncpjkeloaaQEvPCx0
import Derived.Test.YtobfnncpjkeloaaOpen
import Derived.KernelRfl
import Derived.Test.YtobfnncpjkeloaaQEvPCx0
namespace Go.Proofs.Ytobfnncpjkeloaa.Pure
open Go.RowKit Go.Proofs.Ytobfnncpjkeloaa.QEvPC Go.Proofs.YtobfnncpjkeloaaW.PrintWords Go.Proofs.YtobfnncpjkeloaaW.PrintLast Go.Proofs.Ytobfnncpjkeloaa.Open
set_option linter.unusedVariables false
theorem op3 : Opens Try.prog 3 (Kd.int .i64) (fun n => (Lit.int .i64 n).wf = true) := opens_int Try.underlying3
theorem op35 : Opens Try.prog 35 (Kd.slice 3 (Kd.int .i64)) (fun l => (∀ x ∈ l, (fun n => (Lit.int .i64 n).wf = true) x) ∧ l.length ≤ maxLen) := opens_slice Try.underlying35 (by kernel_rfl) op3
theorem op4 : Opens Try.prog 4 Kd.bool (fun _ => True) := opens_bool Try.underlying4
def PrintingCounts_Pure : Prop := ∀ (l0 : List Int) (a1 : Int) (a2 : Bool) (a3 : Bool) (a4 : Int) (a5 : Int), (fun l => (∀ x ∈ l, (fun n => (Lit.int .i64 n).wf = true) x) ∧ l.length ≤ maxLen) l0 → (Lit.int .i64 a1).wf = true → (Lit.int .i64 a4).wf = true → (Lit.int .i64 a5).wf = true → ck_PrintingCounts.f l0 a1 a2 a3 a4 a5 = some true
end Go.Proofs.Ytobfnncpjkeloaa.Pure
