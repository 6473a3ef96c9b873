/- How the arguments of BreaksMustBehindNewlines open, and its statement over plain values (BreaksMustBehindNewlines_Pure). No condition beyond the kinds of the arguments. -/
import Derived.Test.YtohaoaiffneamaaDoorQBreaksx6
import Derived.Test.YtohaoaiffneamaaDoorOpen
import Derived.KernelRfl
import Derived.Test.YtohaoaiffneamaaDoorLaid
import Derived.Test.YtohaoaiffneamaaDoorQBreaksx0
namespace Go.Proofs.YtohaoaiffneamaaDoor.Pure
open Go.RowKit Go.Proofs.YtohaoaiffneamaaDoor.QBreaks Go.Proofs.YtohaoaiffneamaaDoorW.PrintWords Go.Proofs.YtohaoaiffneamaaDoorW.PrintLast Go.Proofs.YtohaoaiffneamaaDoor.Open Go.Proofs.YtohaoaiffneamaaDoor.Laid
set_option linter.unusedVariables false
theorem op3 : Opens Tryd.prog 3 (Kd.int .i64) (fun n => (Lit.int .i64 n).wf = true) := opens_int Tryd.underlying3
theorem op22 : Opens Tryd.prog 22 (Kd.slice 3 (Kd.int .i64)) (fun l => (∀ x ∈ l, (fun n => (Lit.int .i64 n).wf = true) x) ∧ l.length ≤ maxLen) := opens_slice Tryd.underlying22 (by kernel_rfl) op3
instance : Inhabited S98 := ⟨(⟨(0 : Int), (0 : Int), (0 : Int)⟩ : S98)⟩
def W98 (x : S98) : Prop := (fun n => (Lit.int .i64 n).wf = true) x.f0 ∧ (fun n => (Lit.int .i64 n).wf = true) x.f1 ∧ (fun n => (Lit.int .i64 n).wf = true) x.f2
theorem op98 : Opens Tryd.prog 98 k98 W98 := Opens.mono (opens_struct (fun x : S98 => (x.f0, x.f1, x.f2)) (fun p => ⟨p.1, p.2.1, p.2.2⟩) (fun _ => rfl) Tryd.underlying98 (opens_fs_cons (o := 1) (by kernel_rfl) op3 (opens_fs_cons (o := 2) (by kernel_rfl) op3 (opens_fs_one (by kernel_rfl) op3)))) (fun _ h => h)
def te98f (x : S98) : DataW Unit := .agg [.lit (.int .i64 x.f0), .lit (.int .i64 x.f1), .lit (.int .i64 x.f2)]
theorem te98 : Tells Tryd.prog 98 k98 te98f := tells_struct (fun x : S98 => (x.f0, x.f1, x.f2)) (fun p => ⟨p.1, p.2.1, p.2.2⟩) (fun _ => rfl) Tryd.underlying98 (tells_fs_cons (o := 1) (by kernel_rfl) (tells_int Tryd.underlying3) (tells_fs_cons (o := 2) (by kernel_rfl) (tells_int Tryd.underlying3) (tells_fs_one (by kernel_rfl) (tells_int Tryd.underlying3))))
theorem te98_inj : ∀ a b, te98f a = te98f b → a = b := by
  intro a b h
  cases a; cases b
  simp [te98f] at h
  simp_all
def tab0 : List S98 := [⟨173, 173, 0⟩, ⟨768, 879, 0⟩, ⟨1425, 1469, 0⟩, ⟨1471, 1471, 0⟩, ⟨1473, 1474, 0⟩, ⟨1552, 1562, 0⟩, ⟨1611, 1631, 0⟩, ⟨8203, 8207, 0⟩, ⟨8234, 8238, 0⟩, ⟨8288, 8297, 0⟩, ⟨65024, 65039, 0⟩, ⟨65532, 65532, 0⟩]
def BreaksMustBehindNewlines_Pure : Prop := ∀ (l0 : List Int) (a1 : Int), (fun l => (∀ x ∈ l, (fun n => (Lit.int .i64 n).wf = true) x) ∧ l.length ≤ maxLen) l0 → (Lit.int .i64 a1).wf = true → ∃ k, ck_BreaksMustBehindNewlines.f k l0 a1 [tab0] = some true
end Go.Proofs.YtohaoaiffneamaaDoor.Pure
