/- How the arguments of ClockAddsUp open, and its statement over plain values (ClockAddsUp_Pure). No condition beyond the kinds of the arguments. -/
import Derived.Test.YtohaoaiffneamaaQClockAddsUpx4
import Derived.Test.YtohaoaiffneamaaOpen
import Derived.KernelRfl
import Derived.Test.YtohaoaiffneamaaQClockAddsUpx0
namespace Go.Proofs.Ytohaoaiffneamaa.Pure
open Go.RowKit Go.Proofs.Ytohaoaiffneamaa.QClockAddsUp Go.Proofs.YtohaoaiffneamaaW.PrintWords Go.Proofs.YtohaoaiffneamaaW.PrintLast Go.Proofs.Ytohaoaiffneamaa.Open
set_option linter.unusedVariables false
theorem op3 : Opens Try.prog 3 (Kd.int .i64) (fun n => (Lit.int .i64 n).wf = true) := opens_int Try.underlying3
instance : Inhabited S70 := ⟨(⟨(0 : Int), (0 : Int), (0 : Int)⟩ : S70)⟩
def W70 (x : S70) : Prop := (fun n => (Lit.int .i64 n).wf = true) x.f0 ∧ (fun n => (Lit.int .i64 n).wf = true) x.f1 ∧ (fun n => (Lit.int .i64 n).wf = true) x.f2
theorem op70 : Opens Try.prog 70 k70 W70 := Opens.mono (opens_struct (fun x : S70 => (x.f0, x.f1, x.f2)) (fun p => ⟨p.1, p.2.1, p.2.2⟩) (fun _ => rfl) Try.underlying70 (opens_fs_cons (o := 1) (by kernel_rfl) op3 (opens_fs_cons (o := 2) (by kernel_rfl) op3 (opens_fs_one (by kernel_rfl) op3)))) (fun _ h => h)
theorem op62 : Opens Try.prog 62 (Kd.slice 70 k70) (fun l => (∀ x ∈ l, W70 x) ∧ l.length ≤ maxLen) := opens_slice Try.underlying62 (by kernel_rfl) op70
def ClockAddsUp_Pure : Prop := ∀ (l0 : List S70) (a1 : Int) (a2 : Int), (fun l => (∀ x ∈ l, W70 x) ∧ l.length ≤ maxLen) l0 → (Lit.int .i64 a1).wf = true → (Lit.int .i64 a2).wf = true → ∃ k, ck_ClockAddsUp.f k l0 a1 a2 = some true
end Go.Proofs.Ytohaoaiffneamaa.Pure
