/- How the arguments of ShapeTurnKeepsSides open, and its statement over plain values (ShapeTurnKeepsSides_Pure). No condition beyond the kinds of the arguments. -/
import Derived.Test.YtfkkhjbnkjpkiaaDoorQEvTKx0
import Derived.Test.YtfkkhjbnkjpkiaaDoorOpen
import Derived.KernelRfl
import Derived.Test.YtfkkhjbnkjpkiaaDoorLaid
import Derived.Test.YtfkkhjbnkjpkiaaDoorQEvTKx0
namespace Go.Proofs.YtfkkhjbnkjpkiaaDoor.Pure
open Go.RowKit Go.Proofs.YtfkkhjbnkjpkiaaDoor.QEvTK Go.Proofs.YtfkkhjbnkjpkiaaDoorW.PrintWords Go.Proofs.YtfkkhjbnkjpkiaaDoorW.PrintLast Go.Proofs.YtfkkhjbnkjpkiaaDoor.Open Go.Proofs.YtfkkhjbnkjpkiaaDoor.Laid
set_option linter.unusedVariables false
theorem op3 : Opens Tryd.prog 3 (Kd.int .i64) (fun n => (Lit.int .i64 n).wf = true) := opens_int Tryd.underlying3
theorem op9 : Opens Tryd.prog 9 Kd.string (fun s => s.size ≤ maxLen) := opens_string Tryd.underlying9
structure S23 where
  f0 : Int
  f1 : Int
  f2 : Int
  f3 : Int
  f4 : Int
  f5 : Int
  f6 : Int
  f7 : Int
  f8 : Int
  f9 : Int
  f10 : ByteArray
  f11 : ByteArray
def k23 : Kd S23 := Kd.iso (Kd.pair (Kd.int .i64) (Kd.pair (Kd.int .i64) (Kd.pair (Kd.int .i64) (Kd.pair (Kd.int .i64) (Kd.pair (Kd.int .i64) (Kd.pair (Kd.int .i64) (Kd.pair (Kd.int .i64) (Kd.pair (Kd.int .i64) (Kd.pair (Kd.int .i64) (Kd.pair (Kd.int .i64) (Kd.pair Kd.string Kd.string))))))))))) (fun x : S23 => (x.f0, x.f1, x.f2, x.f3, x.f4, x.f5, x.f6, x.f7, x.f8, x.f9, x.f10, x.f11))
instance : Inhabited S23 := ⟨(⟨(0 : Int), (0 : Int), (0 : Int), (0 : Int), (0 : Int), (0 : Int), (0 : Int), (0 : Int), (0 : Int), (0 : Int), ByteArray.empty, ByteArray.empty⟩ : S23)⟩
def W23 (x : S23) : Prop := (fun n => (Lit.int .i64 n).wf = true) x.f0 ∧ (fun n => (Lit.int .i64 n).wf = true) x.f1 ∧ (fun n => (Lit.int .i64 n).wf = true) x.f2 ∧ (fun n => (Lit.int .i64 n).wf = true) x.f3 ∧ (fun n => (Lit.int .i64 n).wf = true) x.f4 ∧ (fun n => (Lit.int .i64 n).wf = true) x.f5 ∧ (fun n => (Lit.int .i64 n).wf = true) x.f6 ∧ (fun n => (Lit.int .i64 n).wf = true) x.f7 ∧ (fun n => (Lit.int .i64 n).wf = true) x.f8 ∧ (fun n => (Lit.int .i64 n).wf = true) x.f9 ∧ (fun s => s.size ≤ maxLen) x.f10 ∧ (fun s => s.size ≤ maxLen) x.f11
theorem op23 : Opens Tryd.prog 23 k23 W23 := Opens.mono (opens_struct (fun x : S23 => (x.f0, x.f1, x.f2, x.f3, x.f4, x.f5, x.f6, x.f7, x.f8, x.f9, x.f10, x.f11)) (fun p => ⟨p.1, p.2.1, p.2.2.1, p.2.2.2.1, p.2.2.2.2.1, p.2.2.2.2.2.1, p.2.2.2.2.2.2.1, p.2.2.2.2.2.2.2.1, p.2.2.2.2.2.2.2.2.1, p.2.2.2.2.2.2.2.2.2.1, p.2.2.2.2.2.2.2.2.2.2.1, p.2.2.2.2.2.2.2.2.2.2.2⟩) (fun _ => rfl) Tryd.underlying23 (opens_fs_cons (o := 1) (by kernel_rfl) op3 (opens_fs_cons (o := 2) (by kernel_rfl) op3 (opens_fs_cons (o := 3) (by kernel_rfl) op3 (opens_fs_cons (o := 4) (by kernel_rfl) op3 (opens_fs_cons (o := 5) (by kernel_rfl) op3 (opens_fs_cons (o := 6) (by kernel_rfl) op3 (opens_fs_cons (o := 7) (by kernel_rfl) op3 (opens_fs_cons (o := 8) (by kernel_rfl) op3 (opens_fs_cons (o := 9) (by kernel_rfl) op3 (opens_fs_cons (o := 10) (by kernel_rfl) op3 (opens_fs_cons (o := 11) (by kernel_rfl) op9 (opens_fs_one (by kernel_rfl) op9))))))))))))) (fun _ h => h)
def tab0 : List Int := [0, 1144, 2287, 3430, 4572, 5712, 6850, 7987, 9121, 10252, 11380, 12505, 13626, 14742, 15855, 16962, 18064, 19161, 20252, 21336, 22415, 23486, 24550, 25607, 26656, 27697, 28729, 29753, 30767, 31772, 32768, 33754, 34729, 35693, 36647, 37590, 38521, 39441, 40348, 41243, 42126, 42995, 43852, 44695, 45525, 46341, 47143, 47930, 48703, 49461, 50203, 50931, 51643, 52339, 53020, 53684, 54332, 54963, 55578, 56175, 56756, 57319, 57865, 58393, 58903, 59396, 59870, 60326, 60764, 61183, 61584, 61966, 62328, 62672, 62997, 63303, 63589, 63856, 64104, 64332, 64540, 64729, 64898, 65048, 65177, 65287, 65376, 65446, 65496, 65526, 65536]
def ShapeTurnKeepsSides_Pure : Prop := ∀ (x0 : S23) (a1 : Int), W23 x0 → (Lit.int .i64 a1).wf = true → ck_ShapeTurnKeepsSides.f x0.f0 x0.f1 x0.f2 x0.f3 x0.f4 x0.f5 x0.f6 x0.f7 x0.f8 x0.f9 x0.f10 x0.f11 a1 tab0 = some true
end Go.Proofs.YtfkkhjbnkjpkiaaDoor.Pure
