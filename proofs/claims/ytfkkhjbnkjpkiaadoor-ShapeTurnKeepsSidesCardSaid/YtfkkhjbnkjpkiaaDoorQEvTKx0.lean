/- ShapeTurnKeepsSides: what the machine's call answers, by the evaluator's word (ShT). No condition but that the arguments lie in memory as told, and the table is the laid one. -/
import Derived.Test.YtfkkhjbnkjpkiaaDoorShT
import Derived.Test.YtfkkhjbnkjpkiaaDoorWWords
import Derived.KernelRfl
namespace Go.Proofs.YtfkkhjbnkjpkiaaDoor.QEvTK
open Go Go.RowKit Go.Proofs.YtfkkhjbnkjpkiaaDoor.Ev Go.Proofs.YtfkkhjbnkjpkiaaDoor.Sh Go.Proofs.YtfkkhjbnkjpkiaaDoorW.PrintWords Go.Proofs.Tryd
theorem glob_ok {w : World} {g2 : List Int} {c2 : Nat} (hr2 : Kd.C (Kd.int .i64) w (some ⟨0, 0, none⟩) g2.length g2) (_ : g2.length ≤ c2) (hg : g2 = qtab) : okG w (fun b => b < w.heap.size) gl := by
  intro g s h
  unfold gl at h
  split at h
  · rename_i hgg
    subst hgg
    obtain rfl := Option.some.inj h
    refine ⟨rfl, ?_⟩
    have hc : ∀ j, j < 91 → w.cell? ⟨0, 0 + j, none⟩ = some (.int .i64 (q_qt j)) := fun j hj => by
      have hl : g2.length = 91 := by rw [hg]; rfl
      obtain ⟨ad, e1, e2⟩ := Kd.at_int hr2 (j : Int) (by omega) (by omega)
      obtain rfl := Option.some.inj e1
      rw [Int.toNat_natCast, Addr.add_mid] at e2
      rw [e2, hg]
      rfl
    exact RF.vp 91 _ _ 0 0 (fun j => .int .i64 (q_qt j)) (World.block_lt_of_cell? w _ (hc 0 (by omega))) hc (fun j _ => .int .i64 _)
  · cases h
def ck_ShapeTurnKeepsSides.f (_ _ _ _ _ _ _ _ _ _ : Int) (_ _ : ByteArray) (_ : Int) (g2 : List Int) : Option Bool := if g2 = qtab then some true else none
theorem ck_ShapeTurnKeepsSides.calls (x0 x1 x2 x3 x4 x5 x6 x7 x8 x9 : Int) (x10 x11 : ByteArray) (a1 : Int) (c2 : Nat) (g2 : List Int) (r : Bool) (w : World) (hr2 : Kd.C (Kd.int .i64) w (some ⟨0, 0, none⟩) g2.length g2) (hc2 : g2.length ≤ c2) (h : ck_ShapeTurnKeepsSides.f x0 x1 x2 x3 x4 x5 x6 x7 x8 x9 x10 x11 a1 g2 = some r) :
    Calls prog 3 #[.agg #[.int .i64 x0, .int .i64 x1, .int .i64 x2, .int .i64 x3, .int .i64 x4, .int .i64 x5, .int .i64 x6, .int .i64 x7, .int .i64 x8, .int .i64 x9, .string x10, .string x11], .int .i64 a1] w (fun e w' => e = .returned (.bool r) ∧ Below w.heap.size w w') := by
  unfold ck_ShapeTurnKeepsSides.f at h
  split at h
  case isFalse => cases h
  rename_i hg
  obtain rfl := Option.some.inj h
  have hM : Sound prog gl (upM (callF prog gl noD 6 Oi)) := callF_ok sOi mo 6
  have hans : upM (callF prog gl noD 6 Oi) 0 3 [.agg (cel (cellsOf10 x0 x1 x2 x3 x4 x5 x6 x7 x8 x9) x10 x11), i64 a1] [] = some (true, bl true, []) := by
    unfold upM
    rw [tk_eq 0 (cellsOf10 x0 x1 x2 x3 x4 x5 x6 x7 x8 x9) x10 x11 a1]
    rfl
  have hI : ∀ n : Int, RS w (fun b => b < w.heap.size) (fun _ => none) (.int .i64 n) (.int .i64 n) := fun n => .int .i64 n
  have hS : ∀ s : ByteArray, RS w (fun b => b < w.heap.size) (fun _ => none) (.str s) (.string s) := fun s => .str s
  exact calls_of hM hans (u0 := .bool true) rfl (glob_ok hr2 hc2 hg) (.cons ⟨⟨_, rfl, .cons (hI _) (.cons (hI _) (.cons (hI _) (.cons (hI _) (.cons (hI _) (.cons (hI _) (.cons (hI _) (.cons (hI _) (.cons (hI _) (.cons (hI _) (.cons (hS _) (.cons (hS _) .nil)))))))))))⟩, rfl⟩ (.cons ⟨.int .i64 a1, rfl⟩ .nil))
end Go.Proofs.YtfkkhjbnkjpkiaaDoor.QEvTK
