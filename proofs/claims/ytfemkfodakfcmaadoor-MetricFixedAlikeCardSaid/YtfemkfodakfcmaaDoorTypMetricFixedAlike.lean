/- How the arguments of MetricFixedAlike open, and its statement over plain values (MetricFixedAlike_Pure). No condition beyond the kinds of the arguments. -/
import Derived.Test.YtfemkfodakfcmaaDoorQMetricFixedAlikex5
import Derived.Test.YtfemkfodakfcmaaDoorOpen
import Derived.KernelRfl
import Derived.Test.YtfemkfodakfcmaaDoorLaid
import Derived.Test.YtfemkfodakfcmaaDoorQMetricFixedAlikex0
namespace Go.Proofs.YtfemkfodakfcmaaDoor.Pure
open Go.RowKit Go.Proofs.YtfemkfodakfcmaaDoor.QMetricFixedAlike Go.Proofs.YtfemkfodakfcmaaDoorW.PrintWords Go.Proofs.YtfemkfodakfcmaaDoorW.PrintLast Go.Proofs.YtfemkfodakfcmaaDoor.Open Go.Proofs.YtfemkfodakfcmaaDoor.Laid
set_option linter.unusedVariables false
theorem op3 : Opens Tryd.prog 3 (Kd.int .i64) (fun n => (Lit.int .i64 n).wf = true) := opens_int Tryd.underlying3
theorem op4 : Opens Tryd.prog 4 Kd.bool (fun _ => True) := opens_bool Tryd.underlying4
structure S23 where
  f0 : Int
  f1 : Bool
  f2 : Bool
def k23 : Kd S23 := Kd.iso (Kd.pair (Kd.int .i64) (Kd.pair Kd.bool Kd.bool)) (fun x : S23 => (x.f0, x.f1, x.f2))
instance : Inhabited S23 := ⟨(⟨(0 : Int), false, false⟩ : S23)⟩
def W23 (x : S23) : Prop := (fun n => (Lit.int .i64 n).wf = true) x.f0 ∧ (fun _ => True) x.f1 ∧ (fun _ => True) x.f2
theorem op23 : Opens Tryd.prog 23 k23 W23 := Opens.mono (opens_struct (fun x : S23 => (x.f0, x.f1, x.f2)) (fun p => ⟨p.1, p.2.1, p.2.2⟩) (fun _ => rfl) Tryd.underlying23 (opens_fs_cons (o := 1) (by kernel_rfl) op3 (opens_fs_cons (o := 2) (by kernel_rfl) op4 (opens_fs_one (by kernel_rfl) op4)))) (fun _ h => h)
instance : Inhabited S73 := ⟨(⟨(0 : Int), (0 : Int), (0 : Int)⟩ : S73)⟩
def W73 (x : S73) : Prop := (fun n => (Lit.int .i64 n).wf = true) x.f0 ∧ (fun n => (Lit.int .i64 n).wf = true) x.f1 ∧ (fun n => (Lit.int .i64 n).wf = true) x.f2
theorem op73 : Opens Tryd.prog 73 k73 W73 := Opens.mono (opens_struct (fun x : S73 => (x.f0, x.f1, x.f2)) (fun p => ⟨p.1, p.2.1, p.2.2⟩) (fun _ => rfl) Tryd.underlying73 (opens_fs_cons (o := 1) (by kernel_rfl) op3 (opens_fs_cons (o := 2) (by kernel_rfl) op3 (opens_fs_one (by kernel_rfl) op3)))) (fun _ h => h)
def te73f (x : S73) : DataW Unit := .agg [.lit (.int .i64 x.f0), .lit (.int .i64 x.f1), .lit (.int .i64 x.f2)]
theorem te73 : Tells Tryd.prog 73 k73 te73f := tells_struct (fun x : S73 => (x.f0, x.f1, x.f2)) (fun p => ⟨p.1, p.2.1, p.2.2⟩) (fun _ => rfl) Tryd.underlying73 (tells_fs_cons (o := 1) (by kernel_rfl) (tells_int Tryd.underlying3) (tells_fs_cons (o := 2) (by kernel_rfl) (tells_int Tryd.underlying3) (tells_fs_one (by kernel_rfl) (tells_int Tryd.underlying3))))
theorem te73_inj : ∀ a b, te73f a = te73f b → a = b := by
  intro a b h
  cases a; cases b
  simp [te73f] at h
  simp_all
def tab0 : List S73 := [⟨9, 10, 0⟩, ⟨48, 57, 500⟩, ⟨160, 160, 250⟩, ⟨192, 222, 660⟩, ⟨223, 591, 500⟩, ⟨880, 1327, 560⟩, ⟨1424, 2303, 520⟩, ⟨4352, 4447, 1000⟩, ⟨8212, 8212, 1000⟩, ⟨8208, 8211, 500⟩, ⟨11904, 42191, 1000⟩, ⟨44032, 55203, 1000⟩, ⟨63744, 64255, 1000⟩, ⟨65280, 65376, 1000⟩, ⟨131072, 262141, 1000⟩, ⟨65, 90, 660⟩, ⟨33, 126, 500⟩]
def tab1 : List S73 := [⟨173, 173, 0⟩, ⟨768, 879, 0⟩, ⟨1425, 1469, 0⟩, ⟨1471, 1471, 0⟩, ⟨1473, 1474, 0⟩, ⟨1552, 1562, 0⟩, ⟨1611, 1631, 0⟩, ⟨8203, 8207, 0⟩, ⟨8234, 8238, 0⟩, ⟨8288, 8297, 0⟩, ⟨65024, 65039, 0⟩, ⟨65532, 65532, 0⟩]
def MetricFixedAlike_Pure : Prop := ∀ (a0 : Int) (a1 : Int) (x2 : S23), (Lit.int .i64 a0).wf = true → (Lit.int .i64 a1).wf = true → W23 x2 → ∃ k, ck_MetricFixedAlike.f k a0 a1 x2.f0 x2.f1 x2.f2 [tab0] [tab1] = some true
end Go.Proofs.YtfemkfodakfcmaaDoor.Pure
