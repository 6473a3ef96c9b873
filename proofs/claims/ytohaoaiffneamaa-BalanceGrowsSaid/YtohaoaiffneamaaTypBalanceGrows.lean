/- How the arguments of BalanceGrows open, and its statement over plain values (BalanceGrows_Pure). No condition beyond the kinds of the arguments. -/
import Derived.Test.YtohaoaiffneamaaQBalancex7
import Derived.Test.YtohaoaiffneamaaOpen
import Derived.KernelRfl
import Derived.Test.YtohaoaiffneamaaTypBalanceAddsUp
import Derived.Test.YtohaoaiffneamaaQBalancex0
namespace Go.Proofs.Ytohaoaiffneamaa.Pure
open Go.RowKit Go.Proofs.Ytohaoaiffneamaa.QBalance Go.Proofs.YtohaoaiffneamaaW.PrintWords Go.Proofs.YtohaoaiffneamaaW.PrintLast Go.Proofs.Ytohaoaiffneamaa.Open
set_option linter.unusedVariables false
def BalanceGrows_Pure : Prop := ∀ (a0 : Int) (l1 : List S80) (a2 : Int) (a3 : Int), (Lit.int .i64 a0).wf = true → (fun l => (∀ x ∈ l, W80 x) ∧ l.length ≤ maxLen) l1 → (Lit.int .i64 a2).wf = true → (Lit.int .i64 a3).wf = true → ∃ k, ck_BalanceGrows.f k a0 l1 a2 a3 = some true
end Go.Proofs.Ytohaoaiffneamaa.Pure
