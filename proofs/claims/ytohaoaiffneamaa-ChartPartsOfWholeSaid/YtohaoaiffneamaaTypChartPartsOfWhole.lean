/- How the arguments of ChartPartsOfWhole open, and its statement over plain values (ChartPartsOfWhole_Pure). No condition beyond the kinds of the arguments. -/
import Derived.Test.YtohaoaiffneamaaQChartPartsOfWholex6
import Derived.Test.YtohaoaiffneamaaOpen
import Derived.KernelRfl
import Derived.Test.YtohaoaiffneamaaQChartPartsOfWholex0
namespace Go.Proofs.Ytohaoaiffneamaa.Pure
open Go.RowKit Go.Proofs.Ytohaoaiffneamaa.QChartPartsOfWhole Go.Proofs.YtohaoaiffneamaaW.PrintWords Go.Proofs.YtohaoaiffneamaaW.PrintLast Go.Proofs.Ytohaoaiffneamaa.Open
set_option linter.unusedVariables false
theorem op3 : Opens Try.prog 3 (Kd.int .i64) (fun n => (Lit.int .i64 n).wf = true) := opens_int Try.underlying3
theorem op9 : Opens Try.prog 9 Kd.string (fun s => s.size ≤ maxLen) := opens_string Try.underlying9
theorem op49 : Opens Try.prog 49 (Kd.slice 9 Kd.string) (fun l => (∀ x ∈ l, (fun s => s.size ≤ maxLen) x) ∧ l.length ≤ maxLen) := opens_slice Try.underlying49 (by kernel_rfl) op9
theorem op29 : Opens Try.prog 29 (Kd.slice 3 (Kd.int .i64)) (fun l => (∀ x ∈ l, (fun n => (Lit.int .i64 n).wf = true) x) ∧ l.length ≤ maxLen) := opens_slice Try.underlying29 (by kernel_rfl) op3
theorem op50 : Opens Try.prog 50 (Kd.slice 29 (Kd.slice 3 (Kd.int .i64))) (fun l => (∀ x ∈ l, (fun l => (∀ x ∈ l, (fun n => (Lit.int .i64 n).wf = true) x) ∧ l.length ≤ maxLen) x) ∧ l.length ≤ maxLen) := opens_slice Try.underlying50 (by kernel_rfl) op29
structure S52 where
  f0 : Int
  f1 : (List ByteArray)
  f2 : (List (List Int))
def k52 : Kd S52 := Kd.iso (Kd.pair (Kd.int .i64) (Kd.pair (Kd.slice 9 Kd.string) (Kd.slice 29 (Kd.slice 3 (Kd.int .i64))))) (fun x : S52 => (x.f0, x.f1, x.f2))
instance : Inhabited S52 := ⟨(⟨(0 : Int), [], []⟩ : S52)⟩
def W52 (x : S52) : Prop := (fun n => (Lit.int .i64 n).wf = true) x.f0 ∧ (fun l => (∀ x ∈ l, (fun s => s.size ≤ maxLen) x) ∧ l.length ≤ maxLen) x.f1 ∧ (fun l => (∀ x ∈ l, (fun l => (∀ x ∈ l, (fun n => (Lit.int .i64 n).wf = true) x) ∧ l.length ≤ maxLen) x) ∧ l.length ≤ maxLen) x.f2
theorem op52 : Opens Try.prog 52 k52 W52 := Opens.mono (opens_struct (fun x : S52 => (x.f0, x.f1, x.f2)) (fun p => ⟨p.1, p.2.1, p.2.2⟩) (fun _ => rfl) Try.underlying52 (opens_fs_cons (o := 1) (by kernel_rfl) op3 (opens_fs_cons (o := 2) (by kernel_rfl) op49 (opens_fs_one (by kernel_rfl) op50)))) (fun _ h => h)
def ChartPartsOfWhole_Pure : Prop := ∀ (x0 : S52), W52 x0 → ∃ k, ck_ChartPartsOfWhole.f k x0.f0 x0.f1 x0.f2 = some true
end Go.Proofs.Ytohaoaiffneamaa.Pure
