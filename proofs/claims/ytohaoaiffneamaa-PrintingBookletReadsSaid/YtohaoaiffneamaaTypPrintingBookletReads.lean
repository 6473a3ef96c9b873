/- How the arguments of PrintingBookletReads open, and its statement over plain values (PrintingBookletReads_Pure). No condition beyond the kinds of the arguments. -/
import Derived.Test.YtohaoaiffneamaaQPrintingBookletReadsx3
import Derived.Test.YtohaoaiffneamaaOpen
import Derived.KernelRfl
import Derived.Test.YtohaoaiffneamaaQPrintingBookletReadsx0
namespace Go.Proofs.Ytohaoaiffneamaa.Pure
open Go.RowKit Go.Proofs.Ytohaoaiffneamaa.QPrintingBookletReads Go.Proofs.YtohaoaiffneamaaW.PrintWords Go.Proofs.YtohaoaiffneamaaW.PrintLast Go.Proofs.Ytohaoaiffneamaa.Open
set_option linter.unusedVariables false
theorem op3 : Opens Try.prog 3 (Kd.int .i64) (fun n => (Lit.int .i64 n).wf = true) := opens_int Try.underlying3
theorem op29 : Opens Try.prog 29 (Kd.slice 3 (Kd.int .i64)) (fun l => (∀ x ∈ l, (fun n => (Lit.int .i64 n).wf = true) x) ∧ l.length ≤ maxLen) := opens_slice Try.underlying29 (by kernel_rfl) op3
def PrintingBookletReads_Pure : Prop := ∀ (l0 : List Int), (fun l => (∀ x ∈ l, (fun n => (Lit.int .i64 n).wf = true) x) ∧ l.length ≤ maxLen) l0 → ∃ k, ck_PrintingBookletReads.f k l0 = some true
end Go.Proofs.Ytohaoaiffneamaa.Pure
