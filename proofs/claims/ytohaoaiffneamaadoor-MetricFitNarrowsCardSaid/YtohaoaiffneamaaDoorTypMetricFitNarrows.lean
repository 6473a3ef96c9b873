/- How the arguments of MetricFitNarrows open, and its statement over plain values (MetricFitNarrows_Pure). No condition beyond the kinds of the arguments. -/
import Derived.Test.YtohaoaiffneamaaDoorQMetricFitNarrowsx6
import Derived.Test.YtohaoaiffneamaaDoorOpen
import Derived.KernelRfl
import Derived.Test.YtohaoaiffneamaaDoorLaid
import Derived.Test.YtohaoaiffneamaaDoorQMetricFitNarrowsx0
namespace Go.Proofs.YtohaoaiffneamaaDoor.Pure
open Go.RowKit Go.Proofs.YtohaoaiffneamaaDoor.QMetricFitNarrows Go.Proofs.YtohaoaiffneamaaDoorW.PrintWords Go.Proofs.YtohaoaiffneamaaDoorW.PrintLast Go.Proofs.YtohaoaiffneamaaDoor.Open Go.Proofs.YtohaoaiffneamaaDoor.Laid
set_option linter.unusedVariables false
theorem op3 : Opens Tryd.prog 3 (Kd.int .i64) (fun n => (Lit.int .i64 n).wf = true) := opens_int Tryd.underlying3
theorem op22 : Opens Tryd.prog 22 (Kd.slice 3 (Kd.int .i64)) (fun l => (∀ x ∈ l, (fun n => (Lit.int .i64 n).wf = true) x) ∧ l.length ≤ maxLen) := opens_slice Tryd.underlying22 (by kernel_rfl) op3
theorem op4 : Opens Tryd.prog 4 Kd.bool (fun _ => True) := opens_bool Tryd.underlying4
structure S56 where
  f0 : Int
  f1 : Bool
  f2 : Bool
def k56 : Kd S56 := Kd.iso (Kd.pair (Kd.int .i64) (Kd.pair Kd.bool Kd.bool)) (fun x : S56 => (x.f0, x.f1, x.f2))
instance : Inhabited S56 := ⟨(⟨(0 : Int), false, false⟩ : S56)⟩
def W56 (x : S56) : Prop := (fun n => (Lit.int .i64 n).wf = true) x.f0 ∧ (fun _ => True) x.f1 ∧ (fun _ => True) x.f2
theorem op56 : Opens Tryd.prog 56 k56 W56 := Opens.mono (opens_struct (fun x : S56 => (x.f0, x.f1, x.f2)) (fun p => ⟨p.1, p.2.1, p.2.2⟩) (fun _ => rfl) Tryd.underlying56 (opens_fs_cons (o := 1) (by kernel_rfl) op3 (opens_fs_cons (o := 2) (by kernel_rfl) op4 (opens_fs_one (by kernel_rfl) op4)))) (fun _ h => h)
instance : Inhabited S98 := ⟨(⟨(0 : Int), (0 : Int), (0 : Int)⟩ : S98)⟩
def W98 (x : S98) : Prop := (fun n => (Lit.int .i64 n).wf = true) x.f0 ∧ (fun n => (Lit.int .i64 n).wf = true) x.f1 ∧ (fun n => (Lit.int .i64 n).wf = true) x.f2
theorem op98 : Opens Tryd.prog 98 k98 W98 := Opens.mono (opens_struct (fun x : S98 => (x.f0, x.f1, x.f2)) (fun p => ⟨p.1, p.2.1, p.2.2⟩) (fun _ => rfl) Tryd.underlying98 (opens_fs_cons (o := 1) (by kernel_rfl) op3 (opens_fs_cons (o := 2) (by kernel_rfl) op3 (opens_fs_one (by kernel_rfl) op3)))) (fun _ h => h)
def te98f (x : S98) : DataW Unit := .agg [.lit (.int .i64 x.f0), .lit (.int .i64 x.f1), .lit (.int .i64 x.f2)]
theorem te98 : Tells Tryd.prog 98 k98 te98f := tells_struct (fun x : S98 => (x.f0, x.f1, x.f2)) (fun p => ⟨p.1, p.2.1, p.2.2⟩) (fun _ => rfl) Tryd.underlying98 (tells_fs_cons (o := 1) (by kernel_rfl) (tells_int Tryd.underlying3) (tells_fs_cons (o := 2) (by kernel_rfl) (tells_int Tryd.underlying3) (tells_fs_one (by kernel_rfl) (tells_int Tryd.underlying3))))
theorem te98_inj : ∀ a b, te98f a = te98f b → a = b := by
  intro a b h
  cases a; cases b
  simp [te98f] at h
  simp_all
def tab0 : List S98 := [⟨173, 173, 0⟩, ⟨768, 879, 0⟩, ⟨1425, 1469, 0⟩, ⟨1471, 1471, 0⟩, ⟨1473, 1474, 0⟩, ⟨1552, 1562, 0⟩, ⟨1611, 1631, 0⟩, ⟨8203, 8207, 0⟩, ⟨8234, 8238, 0⟩, ⟨8288, 8297, 0⟩, ⟨65024, 65039, 0⟩, ⟨65532, 65532, 0⟩]
def tab1 : List S98 := [⟨9, 10, 0⟩, ⟨48, 57, 500⟩, ⟨160, 160, 250⟩, ⟨192, 222, 660⟩, ⟨223, 591, 500⟩, ⟨880, 1327, 560⟩, ⟨1424, 2303, 520⟩, ⟨4352, 4447, 1000⟩, ⟨8212, 8212, 1000⟩, ⟨8208, 8211, 500⟩, ⟨11904, 42191, 1000⟩, ⟨44032, 55203, 1000⟩, ⟨63744, 64255, 1000⟩, ⟨65280, 65376, 1000⟩, ⟨131072, 262141, 1000⟩, ⟨65, 90, 660⟩, ⟨33, 126, 500⟩]
def MetricFitNarrows_Pure : Prop := ∀ (l0 : List Int) (x1 : S56) (a2 : Int) (a3 : Int), (fun l => (∀ x ∈ l, (fun n => (Lit.int .i64 n).wf = true) x) ∧ l.length ≤ maxLen) l0 → W56 x1 → (Lit.int .i64 a2).wf = true → (Lit.int .i64 a3).wf = true → ∃ k, ck_MetricFitNarrows.f k l0 x1.f0 x1.f1 x1.f2 a2 a3 [tab0] [tab1] = some true
end Go.Proofs.YtohaoaiffneamaaDoor.Pure
