/- How the arguments of TimelineLastPicture open, and its statement over plain values (TimelineLastPicture_Pure). No condition beyond the kinds of the arguments. -/
import Derived.Test.YtlhgmlfhlbmjpaaQEvLPx0
import Derived.Test.YtlhgmlfhlbmjpaaOpen
import Derived.KernelRfl
import Derived.Test.YtlhgmlfhlbmjpaaQEvLPx0
namespace Go.Proofs.Ytlhgmlfhlbmjpaa.Pure
open Go.RowKit Go.Proofs.Ytlhgmlfhlbmjpaa.QEvLP Go.Proofs.YtlhgmlfhlbmjpaaW.PrintWords Go.Proofs.YtlhgmlfhlbmjpaaW.PrintLast Go.Proofs.Ytlhgmlfhlbmjpaa.Open
set_option linter.unusedVariables false
theorem op3 : Opens Try.prog 3 (Kd.int .i64) (fun n => (Lit.int .i64 n).wf = true) := opens_int Try.underlying3
instance : Inhabited S38 := ⟨(⟨(0 : Int), (0 : Int), (0 : Int), (0 : Int), (0 : Int), (0 : Int), (0 : Int)⟩ : S38)⟩
def W38 (x : S38) : Prop := (fun n => (Lit.int .i64 n).wf = true) x.f0 ∧ (fun n => (Lit.int .i64 n).wf = true) x.f1 ∧ (fun n => (Lit.int .i64 n).wf = true) x.f2 ∧ (fun n => (Lit.int .i64 n).wf = true) x.f3 ∧ (fun n => (Lit.int .i64 n).wf = true) x.f4 ∧ (fun n => (Lit.int .i64 n).wf = true) x.f5 ∧ (fun n => (Lit.int .i64 n).wf = true) x.f6
theorem op38 : Opens Try.prog 38 k38 W38 := Opens.mono (opens_struct (fun x : S38 => (x.f0, x.f1, x.f2, x.f3, x.f4, x.f5, x.f6)) (fun p => ⟨p.1, p.2.1, p.2.2.1, p.2.2.2.1, p.2.2.2.2.1, p.2.2.2.2.2.1, p.2.2.2.2.2.2⟩) (fun _ => rfl) Try.underlying38 (opens_fs_cons (o := 1) (by kernel_rfl) op3 (opens_fs_cons (o := 2) (by kernel_rfl) op3 (opens_fs_cons (o := 3) (by kernel_rfl) op3 (opens_fs_cons (o := 4) (by kernel_rfl) op3 (opens_fs_cons (o := 5) (by kernel_rfl) op3 (opens_fs_cons (o := 6) (by kernel_rfl) op3 (opens_fs_one (by kernel_rfl) op3)))))))) (fun _ h => h)
theorem op22 : Opens Try.prog 22 (Kd.slice 38 k38) (fun l => (∀ x ∈ l, W38 x) ∧ l.length ≤ maxLen) := opens_slice Try.underlying22 (by kernel_rfl) op38
def TimelineLastPicture_Pure : Prop := ∀ (l0 : List S38), (fun l => (∀ x ∈ l, W38 x) ∧ l.length ≤ maxLen) l0 → ck_TimelineLastPicture.f l0 = some true
end Go.Proofs.Ytlhgmlfhlbmjpaa.Pure
