/- How the arguments of BalanceAddsUp open, and its statement over plain values (BalanceAddsUp_Pure). No condition beyond the kinds of the arguments. -/
import Derived.Test.YtohaoaiffneamaaQBalancex6
import Derived.Test.YtohaoaiffneamaaOpen
import Derived.KernelRfl
import Derived.Test.YtohaoaiffneamaaQBalancex0
namespace Go.Proofs.Ytohaoaiffneamaa.Pure
open Go.RowKit Go.Proofs.Ytohaoaiffneamaa.QBalance Go.Proofs.YtohaoaiffneamaaW.PrintWords Go.Proofs.YtohaoaiffneamaaW.PrintLast Go.Proofs.Ytohaoaiffneamaa.Open
set_option linter.unusedVariables false
theorem op3 : Opens Try.prog 3 (Kd.int .i64) (fun n => (Lit.int .i64 n).wf = true) := opens_int Try.underlying3
instance : Inhabited S80 := ⟨(⟨(0 : Int), (0 : Int), (0 : Int), (0 : Int)⟩ : S80)⟩
def W80 (x : S80) : Prop := (fun n => (Lit.int .i64 n).wf = true) x.f0 ∧ (fun n => (Lit.int .i64 n).wf = true) x.f1 ∧ (fun n => (Lit.int .i64 n).wf = true) x.f2 ∧ (fun n => (Lit.int .i64 n).wf = true) x.f3
theorem op80 : Opens Try.prog 80 k80 W80 := Opens.mono (opens_struct (fun x : S80 => (x.f0, x.f1, x.f2, x.f3)) (fun p => ⟨p.1, p.2.1, p.2.2.1, p.2.2.2⟩) (fun _ => rfl) Try.underlying80 (opens_fs_cons (o := 1) (by kernel_rfl) op3 (opens_fs_cons (o := 2) (by kernel_rfl) op3 (opens_fs_cons (o := 3) (by kernel_rfl) op3 (opens_fs_one (by kernel_rfl) op3))))) (fun _ h => h)
theorem op74 : Opens Try.prog 74 (Kd.slice 80 k80) (fun l => (∀ x ∈ l, W80 x) ∧ l.length ≤ maxLen) := opens_slice Try.underlying74 (by kernel_rfl) op80
def BalanceAddsUp_Pure : Prop := ∀ (a0 : Int) (l1 : List S80) (a2 : Int), (Lit.int .i64 a0).wf = true → (fun l => (∀ x ∈ l, W80 x) ∧ l.length ≤ maxLen) l1 → (Lit.int .i64 a2).wf = true → ∃ k, ck_BalanceAddsUp.f k a0 l1 a2 = some true
end Go.Proofs.Ytohaoaiffneamaa.Pure
