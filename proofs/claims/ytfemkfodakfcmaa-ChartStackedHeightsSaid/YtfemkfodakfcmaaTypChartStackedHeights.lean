/- How the arguments of ChartStackedHeights open, and its statement over plain values (ChartStackedHeights_Pure). No condition beyond the kinds of the arguments. -/
import Derived.Test.YtfemkfodakfcmaaQEvCBx0
import Derived.Test.YtfemkfodakfcmaaOpen
import Derived.KernelRfl
import Derived.Test.YtfemkfodakfcmaaQEvCBx0
namespace Go.Proofs.Ytfemkfodakfcmaa.Pure
open Go.RowKit Go.Proofs.Ytfemkfodakfcmaa.QEvCB Go.Proofs.YtfemkfodakfcmaaW.PrintWords Go.Proofs.YtfemkfodakfcmaaW.PrintLast Go.Proofs.Ytfemkfodakfcmaa.Open
set_option linter.unusedVariables false
theorem op3 : Opens Try.prog 3 (Kd.int .i64) (fun n => (Lit.int .i64 n).wf = true) := opens_int Try.underlying3
theorem op9 : Opens Try.prog 9 Kd.string (fun s => s.size ≤ maxLen) := opens_string Try.underlying9
theorem op23 : Opens Try.prog 23 (Kd.slice 9 Kd.string) (fun l => (∀ x ∈ l, (fun s => s.size ≤ maxLen) x) ∧ l.length ≤ maxLen) := opens_slice Try.underlying23 (by kernel_rfl) op9
theorem op52 : Opens Try.prog 52 (Kd.slice 3 (Kd.int .i64)) (fun l => (∀ x ∈ l, (fun n => (Lit.int .i64 n).wf = true) x) ∧ l.length ≤ maxLen) := opens_slice Try.underlying52 (by kernel_rfl) op3
theorem op34 : Opens Try.prog 34 (Kd.slice 52 (Kd.slice 3 (Kd.int .i64))) (fun l => (∀ x ∈ l, (fun l => (∀ x ∈ l, (fun n => (Lit.int .i64 n).wf = true) x) ∧ l.length ≤ maxLen) x) ∧ l.length ≤ maxLen) := opens_slice Try.underlying34 (by kernel_rfl) op52
structure S36 where
  f0 : Int
  f1 : (List ByteArray)
  f2 : (List (List Int))
def k36 : Kd S36 := Kd.iso (Kd.pair (Kd.int .i64) (Kd.pair (Kd.slice 9 Kd.string) (Kd.slice 52 (Kd.slice 3 (Kd.int .i64))))) (fun x : S36 => (x.f0, x.f1, x.f2))
instance : Inhabited S36 := ⟨(⟨(0 : Int), [], []⟩ : S36)⟩
def W36 (x : S36) : Prop := (fun n => (Lit.int .i64 n).wf = true) x.f0 ∧ (fun l => (∀ x ∈ l, (fun s => s.size ≤ maxLen) x) ∧ l.length ≤ maxLen) x.f1 ∧ (fun l => (∀ x ∈ l, (fun l => (∀ x ∈ l, (fun n => (Lit.int .i64 n).wf = true) x) ∧ l.length ≤ maxLen) x) ∧ l.length ≤ maxLen) x.f2
theorem op36 : Opens Try.prog 36 k36 W36 := Opens.mono (opens_struct (fun x : S36 => (x.f0, x.f1, x.f2)) (fun p => ⟨p.1, p.2.1, p.2.2⟩) (fun _ => rfl) Try.underlying36 (opens_fs_cons (o := 1) (by kernel_rfl) op3 (opens_fs_cons (o := 2) (by kernel_rfl) op23 (opens_fs_one (by kernel_rfl) op34)))) (fun _ h => h)
def ChartStackedHeights_Pure : Prop := ∀ (x0 : S36) (a1 : Int), W36 x0 → (Lit.int .i64 a1).wf = true → ck_ChartStackedHeights.f x0.f0 x0.f1 x0.f2 a1 = some true
end Go.Proofs.Ytfemkfodakfcmaa.Pure
