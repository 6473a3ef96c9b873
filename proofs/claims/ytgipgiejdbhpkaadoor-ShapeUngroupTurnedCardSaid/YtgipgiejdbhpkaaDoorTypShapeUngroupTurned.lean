/- How the arguments of ShapeUngroupTurned open, and its statement over plain values (ShapeUngroupTurned_Pure). No condition beyond the kinds of the arguments. -/
import Derived.Test.YtgipgiejdbhpkaaDoorQEvUTx0
import Derived.Test.YtgipgiejdbhpkaaDoorOpen
import Derived.KernelRfl
import Derived.Test.YtgipgiejdbhpkaaDoorLaid
import Derived.Test.YtgipgiejdbhpkaaDoorQEvUTx0
namespace Go.Proofs.YtgipgiejdbhpkaaDoor.Pure
open Go.RowKit Go.Proofs.YtgipgiejdbhpkaaDoor.QEvUT Go.Proofs.YtgipgiejdbhpkaaDoorW.PrintWords Go.Proofs.YtgipgiejdbhpkaaDoorW.PrintLast Go.Proofs.YtgipgiejdbhpkaaDoor.Open Go.Proofs.YtgipgiejdbhpkaaDoor.Laid
set_option linter.unusedVariables false
theorem op3 : Opens Tryd.prog 3 (Kd.int .i64) (fun n => (Lit.int .i64 n).wf = true) := opens_int Tryd.underlying3
theorem op9 : Opens Tryd.prog 9 Kd.string (fun s => s.size ≤ maxLen) := opens_string Tryd.underlying9
instance : Inhabited S26 := ⟨(⟨(0 : Int), (0 : Int), (0 : Int), (0 : Int), (0 : Int), (0 : Int), (0 : Int), (0 : Int), (0 : Int), (0 : Int), ByteArray.empty, ByteArray.empty⟩ : S26)⟩
def W26 (x : S26) : Prop := (fun n => (Lit.int .i64 n).wf = true) x.f0 ∧ (fun n => (Lit.int .i64 n).wf = true) x.f1 ∧ (fun n => (Lit.int .i64 n).wf = true) x.f2 ∧ (fun n => (Lit.int .i64 n).wf = true) x.f3 ∧ (fun n => (Lit.int .i64 n).wf = true) x.f4 ∧ (fun n => (Lit.int .i64 n).wf = true) x.f5 ∧ (fun n => (Lit.int .i64 n).wf = true) x.f6 ∧ (fun n => (Lit.int .i64 n).wf = true) x.f7 ∧ (fun n => (Lit.int .i64 n).wf = true) x.f8 ∧ (fun n => (Lit.int .i64 n).wf = true) x.f9 ∧ (fun s => s.size ≤ maxLen) x.f10 ∧ (fun s => s.size ≤ maxLen) x.f11
theorem op26 : Opens Tryd.prog 26 k26 W26 := Opens.mono (opens_struct (fun x : S26 => (x.f0, x.f1, x.f2, x.f3, x.f4, x.f5, x.f6, x.f7, x.f8, x.f9, x.f10, x.f11)) (fun p => ⟨p.1, p.2.1, p.2.2.1, p.2.2.2.1, p.2.2.2.2.1, p.2.2.2.2.2.1, p.2.2.2.2.2.2.1, p.2.2.2.2.2.2.2.1, p.2.2.2.2.2.2.2.2.1, p.2.2.2.2.2.2.2.2.2.1, p.2.2.2.2.2.2.2.2.2.2.1, p.2.2.2.2.2.2.2.2.2.2.2⟩) (fun _ => rfl) Tryd.underlying26 (opens_fs_cons (o := 1) (by kernel_rfl) op3 (opens_fs_cons (o := 2) (by kernel_rfl) op3 (opens_fs_cons (o := 3) (by kernel_rfl) op3 (opens_fs_cons (o := 4) (by kernel_rfl) op3 (opens_fs_cons (o := 5) (by kernel_rfl) op3 (opens_fs_cons (o := 6) (by kernel_rfl) op3 (opens_fs_cons (o := 7) (by kernel_rfl) op3 (opens_fs_cons (o := 8) (by kernel_rfl) op3 (opens_fs_cons (o := 9) (by kernel_rfl) op3 (opens_fs_cons (o := 10) (by kernel_rfl) op3 (opens_fs_cons (o := 11) (by kernel_rfl) op9 (opens_fs_one (by kernel_rfl) op9))))))))))))) (fun _ h => h)
theorem op22 : Opens Tryd.prog 22 (Kd.slice 26 k26) (fun l => (∀ x ∈ l, W26 x) ∧ l.length ≤ maxLen) := opens_slice Tryd.underlying22 (by kernel_rfl) op26
def tab0 : List Int := [0, 1144, 2287, 3430, 4572, 5712, 6850, 7987, 9121, 10252, 11380, 12505, 13626, 14742, 15855, 16962, 18064, 19161, 20252, 21336, 22415, 23486, 24550, 25607, 26656, 27697, 28729, 29753, 30767, 31772, 32768, 33754, 34729, 35693, 36647, 37590, 38521, 39441, 40348, 41243, 42126, 42995, 43852, 44695, 45525, 46341, 47143, 47930, 48703, 49461, 50203, 50931, 51643, 52339, 53020, 53684, 54332, 54963, 55578, 56175, 56756, 57319, 57865, 58393, 58903, 59396, 59870, 60326, 60764, 61183, 61584, 61966, 62328, 62672, 62997, 63303, 63589, 63856, 64104, 64332, 64540, 64729, 64898, 65048, 65177, 65287, 65376, 65446, 65496, 65526, 65536]
def ShapeUngroupTurned_Pure : Prop := ∀ (l0 : List S26) (a1 : Int), (fun l => (∀ x ∈ l, W26 x) ∧ l.length ≤ maxLen) l0 → (Lit.int .i64 a1).wf = true → ck_ShapeUngroupTurned.f l0 a1 tab0 = some true
end Go.Proofs.YtgipgiejdbhpkaaDoor.Pure
