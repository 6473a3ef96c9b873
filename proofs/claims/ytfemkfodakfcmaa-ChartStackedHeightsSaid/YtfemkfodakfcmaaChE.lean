import Derived.Test.YtfemkfodakfcmaaChD
namespace Go.Proofs.Ytfemkfodakfcmaa.Sh
open Go Go.RowKit Go.Proofs.Ytfemkfodakfcmaa.Ev Go.Proofs.Try
set_option maxRecDepth 100000
set_option linter.unusedVariables false
/-! the maker's y, zero -/
noncomputable def DY : FuncId → PV := fun f => if f = 49 ∨ f = 75 then .tup [] else i64 0
def q_ci : PS → Int
  | .int _ x => x
  | _ => 0
def q_c8 (x0 x1 x2 : PS) (a b c h : Int) (x7 : PS) : Nat → PS := fun j => [x0, x1, x2, .int .i64 a, .int .i64 b, .int .i64 c, .int .i64 h, x7].getD j .nilp
theorem y_raw7 (x0 x1 x2 x7 : PS) (a b c t v : Int) : callF prog gl DY 1 O8 0 49 [.one (.vp 7 (fun j => [x0, x1, x2, .int .i64 a, .int .i64 b, .int .i64 c, .int .i64 t, x7].getD j .nilp) 0), i64 v] [] = (if (q_dec (q_plP a b c v t)) = true then (some ((i64 ((W (t - q_pl a b v t))), []))) else none) := by kernel_rfl
theorem y_raw8 (x0 x1 x2 x7 : PS) (a b c t v : Int) : callF prog gl DY 1 O8 0 49 [.one (.vp 8 (fun j => [x0, x1, x2, .int .i64 a, .int .i64 b, .int .i64 c, .int .i64 t, x7].getD j .nilp) 0), i64 v] [] = (if (q_dec (q_plP a b c v t)) = true then (some ((i64 ((W (t - q_pl a b v t))), []))) else none) := by kernel_rfl
def q_yP (mm : Nat) (cell : Nat → PS) (v : Int) : Prop := (mm = 7 ∨ mm = 8) ∧ ∃ x0 x1 x2 x7 a b c h, cell = q_c8 x0 x1 x2 a b c h x7 ∧ q_plP a b c v h
def q_y (a b h v : Int) : Int := h - q_pl a b v h
theorem pl_le {a b c v n : Int} (h : q_plP a b c v n) : 0 ≤ q_pl a b v n ∧ q_pl a b v n ≤ n := by
  obtain ⟨⟨h1, h2, h3, h4, h5, h6, h7⟩, h8, h9, h10⟩ := h
  unfold q_pl
  have hp : 0 < 2 * (b - a) := by omega
  have m1 : 0 ≤ (v - a) * n := Int.mul_nonneg (by omega) (by omega)
  have e1 : 2 * (v - a) * n = 2 * ((v - a) * n) := by rw [Int.mul_assoc]
  have m2 : (v - a) * n ≤ (b - a) * n := Int.mul_le_mul_of_nonneg_right (by omega) (by omega)
  refine ⟨Int.ediv_nonneg (by omega) (by omega), ?_⟩
  have : (2 * (v - a) * n + (b - a)) / (2 * (b - a)) < n + 1 := Int.ediv_lt_of_lt_mul hp (by
    have e2 : (n + 1) * (2 * (b - a)) = 2 * ((b - a) * n) + 2 * (b - a) := by rw [Int.add_mul, Int.one_mul, Int.mul_comm n, Int.mul_assoc]
    rw [e2, e1]; omega)
  omega
theorem y_eq (mm : Nat) (cell : Nat → PS) (v : Int) (h : q_yP mm cell v) : callF prog gl DY 1 O8 0 49 [.one (.vp mm cell 0), i64 v] [] = some (i64 (q_y (q_ci (cell 3)) (q_ci (cell 4)) (q_ci (cell 6)) v), []) := by
  obtain ⟨hm, x0, x1, x2, x7, a, b, c, h, rfl, h1⟩ := h
  have h2 := pl_le h1
  have h3 := h1.2.1
  have e : W (h - q_pl a b v h) = h - q_pl a b v h := W_id (by omega) (by omega)
  rcases hm with rfl | rfl
  · refine (y_raw7 x0 x1 x2 x7 a b c h v).trans ?_
    rw [if_pos (q_dec_iff.2 h1), e]
    rfl
  · refine (y_raw8 x0 x1 x2 x7 a b c h v).trans ?_
    rw [if_pos (q_dec_iff.2 h1), e]
    rfl
noncomputable def aY : Nat → List PV → Heap → Option (Bool × PV × Heap)
  | 0, [.one (.vp mm cell 0), .one (.int .i64 v)], [] => some (q_dec (q_yP mm cell v), i64 (q_y (q_ci (cell 3)) (q_ci (cell 4)) (q_ci (cell 6)) v), [])
  | _, _, _ => none
noncomputable def O9 : Orac := addM 49 aY O8
theorem sO9 : Sound prog gl O9 := add_ok (D := DY) sO8 sO8 mo (fun nb vs H v H' h => by
  unfold aY at h
  split at h
  · rename_i mm cell x
    obtain ⟨h1, h2, h3⟩ : q_dec (q_yP mm cell x) = true ∧ i64 (q_y (q_ci (cell 3)) (q_ci (cell 4)) (q_ci (cell 6)) x) = v ∧ [] = H' := by simpa using h
    subst h2 h3
    exact ⟨1, y_eq mm cell x (q_dec_iff.1 h1)⟩
  · cases h)
/-- zero, as it is. -/
noncomputable def O10 : Orac := addM 75 (fun nb vs H => upM (callF prog gl DY 1 O9) nb 75 vs H) O9
theorem sO10 : Sound prog gl O10 := add_ok (D := DY) sO9 sO9 mo (fun nb vs H v H' h => by
  refine ⟨1, ?_⟩
  unfold upM at h
  obtain ⟨r, h1, h2⟩ := Option.map_eq_some_iff.1 h
  rw [h1]
  obtain ⟨_, rfl, rfl⟩ : true = true ∧ r.1 = v ∧ r.2 = H' := by simpa using h2
  rfl)
end Go.Proofs.Ytfemkfodakfcmaa.Sh
