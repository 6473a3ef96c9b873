/- How the arguments of MasterKeepsOwn open, and its statement over plain values (MasterKeepsOwn_Pure). No condition beyond the kinds of the arguments. -/
import Derived.Test.YtobfnncpjkeloaaQEvMKx0
import Derived.Test.YtobfnncpjkeloaaOpen
import Derived.KernelRfl
import Derived.Test.YtobfnncpjkeloaaQEvMKx0
namespace Go.Proofs.Ytobfnncpjkeloaa.Pure
open Go.RowKit Go.Proofs.Ytobfnncpjkeloaa.QEvMK Go.Proofs.YtobfnncpjkeloaaW.PrintWords Go.Proofs.YtobfnncpjkeloaaW.PrintLast Go.Proofs.Ytobfnncpjkeloaa.Open
set_option linter.unusedVariables false
theorem op3 : Opens Try.prog 3 (Kd.int .i64) (fun n => (Lit.int .i64 n).wf = true) := opens_int Try.underlying3
theorem op9 : Opens Try.prog 9 Kd.string (fun s => s.size ≤ maxLen) := opens_string Try.underlying9
instance : Inhabited S28 := ⟨(⟨(0 : Int), (0 : Int), (0 : Int), (0 : Int), (0 : Int), (0 : Int), (0 : Int), (0 : Int), (0 : Int), (0 : Int), ByteArray.empty, ByteArray.empty⟩ : S28)⟩
def W28 (x : S28) : Prop := (fun n => (Lit.int .i64 n).wf = true) x.f0 ∧ (fun n => (Lit.int .i64 n).wf = true) x.f1 ∧ (fun n => (Lit.int .i64 n).wf = true) x.f2 ∧ (fun n => (Lit.int .i64 n).wf = true) x.f3 ∧ (fun n => (Lit.int .i64 n).wf = true) x.f4 ∧ (fun n => (Lit.int .i64 n).wf = true) x.f5 ∧ (fun n => (Lit.int .i64 n).wf = true) x.f6 ∧ (fun n => (Lit.int .i64 n).wf = true) x.f7 ∧ (fun n => (Lit.int .i64 n).wf = true) x.f8 ∧ (fun n => (Lit.int .i64 n).wf = true) x.f9 ∧ (fun s => s.size ≤ maxLen) x.f10 ∧ (fun s => s.size ≤ maxLen) x.f11
theorem op28 : Opens Try.prog 28 k28 W28 := Opens.mono (opens_struct (fun x : S28 => (x.f0, x.f1, x.f2, x.f3, x.f4, x.f5, x.f6, x.f7, x.f8, x.f9, x.f10, x.f11)) (fun p => ⟨p.1, p.2.1, p.2.2.1, p.2.2.2.1, p.2.2.2.2.1, p.2.2.2.2.2.1, p.2.2.2.2.2.2.1, p.2.2.2.2.2.2.2.1, p.2.2.2.2.2.2.2.2.1, p.2.2.2.2.2.2.2.2.2.1, p.2.2.2.2.2.2.2.2.2.2.1, p.2.2.2.2.2.2.2.2.2.2.2⟩) (fun _ => rfl) Try.underlying28 (opens_fs_cons (o := 1) (by kernel_rfl) op3 (opens_fs_cons (o := 2) (by kernel_rfl) op3 (opens_fs_cons (o := 3) (by kernel_rfl) op3 (opens_fs_cons (o := 4) (by kernel_rfl) op3 (opens_fs_cons (o := 5) (by kernel_rfl) op3 (opens_fs_cons (o := 6) (by kernel_rfl) op3 (opens_fs_cons (o := 7) (by kernel_rfl) op3 (opens_fs_cons (o := 8) (by kernel_rfl) op3 (opens_fs_cons (o := 9) (by kernel_rfl) op3 (opens_fs_cons (o := 10) (by kernel_rfl) op3 (opens_fs_cons (o := 11) (by kernel_rfl) op9 (opens_fs_one (by kernel_rfl) op9))))))))))))) (fun _ h => h)
theorem op22 : Opens Try.prog 22 (Kd.slice 28 k28) (fun l => (∀ x ∈ l, W28 x) ∧ l.length ≤ maxLen) := opens_slice Try.underlying22 (by kernel_rfl) op28
def MasterKeepsOwn_Pure : Prop := ∀ (l0 : List S28) (l1 : List S28) (a2 : ByteArray), (fun l => (∀ x ∈ l, W28 x) ∧ l.length ≤ maxLen) l0 → (fun l => (∀ x ∈ l, W28 x) ∧ l.length ≤ maxLen) l1 → a2.size ≤ 140737488351232 → ck_MasterKeepsOwn.f l0 l1 a2 = some true
end Go.Proofs.Ytobfnncpjkeloaa.Pure
