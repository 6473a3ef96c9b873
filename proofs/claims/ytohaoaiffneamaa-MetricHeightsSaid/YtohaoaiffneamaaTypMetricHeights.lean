/- How the arguments of MetricHeights open, and its statement over plain values (MetricHeights_Pure). No condition beyond the kinds of the arguments. -/
import Derived.Test.YtohaoaiffneamaaQMetricHeightsx1
import Derived.Test.YtohaoaiffneamaaOpen
import Derived.KernelRfl
import Derived.Test.YtohaoaiffneamaaQMetricHeightsx0
namespace Go.Proofs.Ytohaoaiffneamaa.Pure
open Go.RowKit Go.Proofs.Ytohaoaiffneamaa.QMetricHeights Go.Proofs.YtohaoaiffneamaaW.PrintWords Go.Proofs.YtohaoaiffneamaaW.PrintLast Go.Proofs.Ytohaoaiffneamaa.Open
set_option linter.unusedVariables false
theorem op3 : Opens Try.prog 3 (Kd.int .i64) (fun n => (Lit.int .i64 n).wf = true) := opens_int Try.underlying3
theorem op4 : Opens Try.prog 4 Kd.bool (fun _ => True) := opens_bool Try.underlying4
structure S23 where
  f0 : Int
  f1 : Bool
  f2 : Bool
def k23 : Kd S23 := Kd.iso (Kd.pair (Kd.int .i64) (Kd.pair Kd.bool Kd.bool)) (fun x : S23 => (x.f0, x.f1, x.f2))
instance : Inhabited S23 := ⟨(⟨(0 : Int), false, false⟩ : S23)⟩
def W23 (x : S23) : Prop := (fun n => (Lit.int .i64 n).wf = true) x.f0 ∧ (fun _ => True) x.f1 ∧ (fun _ => True) x.f2
theorem op23 : Opens Try.prog 23 k23 W23 := Opens.mono (opens_struct (fun x : S23 => (x.f0, x.f1, x.f2)) (fun p => ⟨p.1, p.2.1, p.2.2⟩) (fun _ => rfl) Try.underlying23 (opens_fs_cons (o := 1) (by kernel_rfl) op3 (opens_fs_cons (o := 2) (by kernel_rfl) op4 (opens_fs_one (by kernel_rfl) op4)))) (fun _ h => h)
def MetricHeights_Pure : Prop := ∀ (x0 : S23), W23 x0 → ∃ k, chancerykeep3_MetricHeights.f k x0.f0 x0.f1 x0.f2 = some true
end Go.Proofs.Ytohaoaiffneamaa.Pure
