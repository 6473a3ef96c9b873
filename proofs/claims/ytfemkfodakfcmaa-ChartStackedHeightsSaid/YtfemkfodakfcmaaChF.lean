import Derived.Test.YtfemkfodakfcmaaChE
namespace Go.Proofs.Ytfemkfodakfcmaa.Sh
open Go Go.RowKit Go.Proofs.Ytfemkfodakfcmaa.Ev Go.Proofs.Try
set_option maxRecDepth 100000
set_option linter.unusedVariables false
/-! bar -/
abbrev mkB (k : Int) (n m : Nat) (nr sr : Nat → Nat → PS) (a b c t : Int) (o : PS) : OB := .box [.int .i64 k, .view n 1 nr, .view m 1 sr, .int .i64 a, .int .i64 b, .int .i64 c, .int .i64 t, o]
/-- A bar's cells. -/
def q_b1 (s v x w y1 y2 : Int) : Nat → Nat → PS := fun _ j => [PS.int .i64 s, .int .i64 v, .int .i64 x, .int .i64 (min y1 y2), .int .i64 w, .int .i64 (max y1 y2 - min y1 y2)].getD j .nilp
theorem bar_nil (n m : Nat) (k s v f u x w a b c t : Int) (nr sr : Nat → Nat → PS) : callF prog gl DY 1 O10 1 74 [.one (.ptr 0 0), i64 s, i64 v, i64 f, i64 u, i64 x, i64 w] [(0, mkB k n m nr sr a b c t .nils)] = (if (q_dec (q_yP (8 : Nat) (fun j ↦ [PS.int IntKind.i64 k, PS.view n (1 : Nat) nr, PS.view m (1 : Nat) sr, PS.int IntKind.i64 a, PS.int IntKind.i64 b, PS.int IntKind.i64 c, PS.int IntKind.i64 t, PS.nils].getD j PS.nilp) f)) = true then (if (q_dec (q_yP (8 : Nat) (fun j ↦ [PS.int IntKind.i64 k, PS.view n (1 : Nat) nr, PS.view m (1 : Nat) sr, PS.int IntKind.i64 a, PS.int IntKind.i64 b, PS.int IntKind.i64 c, PS.int IntKind.i64 t, PS.nils].getD j PS.nilp) u)) = true then (some ((PV.tup [], [((1 : Nat), OB.rows (50 : Nat) (6 : Nat) (1 : Nat) (appRow (0 : Nat) (fun _ _ ↦ PS.nilp) (litRow (6 : Nat) [PS.int IntKind.i64 s, PS.int IntKind.i64 v, PS.int IntKind.i64 x, PS.int IntKind.i64 (bif decide (q_y (q_ci (PS.int IntKind.i64 a)) (q_ci (PS.int IntKind.i64 b)) (q_ci (PS.int IntKind.i64 t)) u < q_y (q_ci (PS.int IntKind.i64 a)) (q_ci (PS.int IntKind.i64 b)) (q_ci (PS.int IntKind.i64 t)) f) then q_y (q_ci (PS.int IntKind.i64 a)) (q_ci (PS.int IntKind.i64 b)) (q_ci (PS.int IntKind.i64 t)) u else q_y (q_ci (PS.int IntKind.i64 a)) (q_ci (PS.int IntKind.i64 b)) (q_ci (PS.int IntKind.i64 t)) f), PS.int IntKind.i64 w, PS.int IntKind.i64 (W ((bif decide (q_y (q_ci (PS.int IntKind.i64 a)) (q_ci (PS.int IntKind.i64 b)) (q_ci (PS.int IntKind.i64 t)) u > q_y (q_ci (PS.int IntKind.i64 a)) (q_ci (PS.int IntKind.i64 b)) (q_ci (PS.int IntKind.i64 t)) f) then q_y (q_ci (PS.int IntKind.i64 a)) (q_ci (PS.int IntKind.i64 b)) (q_ci (PS.int IntKind.i64 t)) u else q_y (q_ci (PS.int IntKind.i64 a)) (q_ci (PS.int IntKind.i64 b)) (q_ci (PS.int IntKind.i64 t)) f) - bif decide (q_y (q_ci (PS.int IntKind.i64 a)) (q_ci (PS.int IntKind.i64 b)) (q_ci (PS.int IntKind.i64 t)) u < q_y (q_ci (PS.int IntKind.i64 a)) (q_ci (PS.int IntKind.i64 b)) (q_ci (PS.int IntKind.i64 t)) f) then q_y (q_ci (PS.int IntKind.i64 a)) (q_ci (PS.int IntKind.i64 b)) (q_ci (PS.int IntKind.i64 t)) u else q_y (q_ci (PS.int IntKind.i64 a)) (q_ci (PS.int IntKind.i64 b)) (q_ci (PS.int IntKind.i64 t)) f))]))), ((0 : Nat), OB.box [PS.int IntKind.i64 k, PS.view n (1 : Nat) nr, PS.view m (1 : Nat) sr, PS.int IntKind.i64 a, PS.int IntKind.i64 b, PS.int IntKind.i64 c, PS.int IntKind.i64 t, PS.os (1 : Nat)])]))) else none) else none) := by kernel_rfl
theorem bar_row (n m l : Nat) (k s v f u x w a b c t : Int) (nr sr row : Nat → Nat → PS) : callF prog gl DY 1 O10 2 74 [.one (.ptr 0 0), i64 s, i64 v, i64 f, i64 u, i64 x, i64 w] [(0, mkB k n m nr sr a b c t (.os 1)), (1, .rows 50 6 l row)] = (if (q_dec (q_yP (7 : Nat) (fun j ↦ [PS.int IntKind.i64 k, PS.view n (1 : Nat) nr, PS.view m (1 : Nat) sr, PS.int IntKind.i64 a, PS.int IntKind.i64 b, PS.int IntKind.i64 c, PS.int IntKind.i64 t, PS.os (1 : Nat)].getD j PS.nilp) f)) = true then (if (q_dec (q_yP (7 : Nat) (fun j ↦ [PS.int IntKind.i64 k, PS.view n (1 : Nat) nr, PS.view m (1 : Nat) sr, PS.int IntKind.i64 a, PS.int IntKind.i64 b, PS.int IntKind.i64 c, PS.int IntKind.i64 t, PS.os (1 : Nat)].getD j PS.nilp) u)) = true then (if (true && (decide (l + (1 : Nat) ≤ (9223372036854775807 : Nat)) && decide ((l + (1 : Nat)) * (48 : Nat) ≤ (140737488355328 : Nat)))) = true then (some ((PV.tup [], [((1 : Nat), OB.rows (50 : Nat) (6 : Nat) (l + (1 : Nat)) (appRow l row (litRow (6 : Nat) [PS.int IntKind.i64 s, PS.int IntKind.i64 v, PS.int IntKind.i64 x, PS.int IntKind.i64 (bif decide (q_y (q_ci (PS.int IntKind.i64 a)) (q_ci (PS.int IntKind.i64 b)) (q_ci (PS.int IntKind.i64 t)) u < q_y (q_ci (PS.int IntKind.i64 a)) (q_ci (PS.int IntKind.i64 b)) (q_ci (PS.int IntKind.i64 t)) f) then q_y (q_ci (PS.int IntKind.i64 a)) (q_ci (PS.int IntKind.i64 b)) (q_ci (PS.int IntKind.i64 t)) u else q_y (q_ci (PS.int IntKind.i64 a)) (q_ci (PS.int IntKind.i64 b)) (q_ci (PS.int IntKind.i64 t)) f), PS.int IntKind.i64 w, PS.int IntKind.i64 (W ((bif decide (q_y (q_ci (PS.int IntKind.i64 a)) (q_ci (PS.int IntKind.i64 b)) (q_ci (PS.int IntKind.i64 t)) u > q_y (q_ci (PS.int IntKind.i64 a)) (q_ci (PS.int IntKind.i64 b)) (q_ci (PS.int IntKind.i64 t)) f) then q_y (q_ci (PS.int IntKind.i64 a)) (q_ci (PS.int IntKind.i64 b)) (q_ci (PS.int IntKind.i64 t)) u else q_y (q_ci (PS.int IntKind.i64 a)) (q_ci (PS.int IntKind.i64 b)) (q_ci (PS.int IntKind.i64 t)) f) - bif decide (q_y (q_ci (PS.int IntKind.i64 a)) (q_ci (PS.int IntKind.i64 b)) (q_ci (PS.int IntKind.i64 t)) u < q_y (q_ci (PS.int IntKind.i64 a)) (q_ci (PS.int IntKind.i64 b)) (q_ci (PS.int IntKind.i64 t)) f) then q_y (q_ci (PS.int IntKind.i64 a)) (q_ci (PS.int IntKind.i64 b)) (q_ci (PS.int IntKind.i64 t)) u else q_y (q_ci (PS.int IntKind.i64 a)) (q_ci (PS.int IntKind.i64 b)) (q_ci (PS.int IntKind.i64 t)) f))]))), ((0 : Nat), OB.box [PS.int IntKind.i64 k, PS.view n (1 : Nat) nr, PS.view m (1 : Nat) sr, PS.int IntKind.i64 a, PS.int IntKind.i64 b, PS.int IntKind.i64 c, PS.int IntKind.i64 t, PS.os (1 : Nat)])]))) else none) else none) else none) := by kernel_rfl
def q_barP (a b c t f u : Int) (l : Nat) : Prop := q_plP a b c f t ∧ q_plP a b c u t ∧ l ≤ 1000000
theorem y_le {a b c t v : Int} (h : q_plP a b c v t) : 0 ≤ q_y a b t v ∧ q_y a b t v ≤ t := by have := pl_le h; unfold q_y; omega
theorem bar_lit (s v x w y1 y2 : Int) (h : -1000000 ≤ y1 ∧ y1 ≤ 1000000) (h2 : -1000000 ≤ y2 ∧ y2 ≤ 1000000) : litRow 6 [PS.int .i64 s, .int .i64 v, .int .i64 x, .int .i64 (bif decide (y2 < y1) then y2 else y1), .int .i64 w, .int .i64 (W ((bif decide (y2 > y1) then y2 else y1) - bif decide (y2 < y1) then y2 else y1))] = q_b1 s v x w y1 y2 := by
  rw [bmin, bmax, W_id (by omega) (by omega)]
  rfl
theorem bar_nil_eq (n m : Nat) (k s v f u x w a b c t : Int) (nr sr : Nat → Nat → PS) (h : q_barP a b c t f u 0) : callF prog gl DY 1 O10 1 74 [.one (.ptr 0 0), i64 s, i64 v, i64 f, i64 u, i64 x, i64 w] [(0, mkB k n m nr sr a b c t .nils)] = some (.tup [], [(1, .rows 50 6 1 (appRow 0 (fun _ _ => .nilp) (q_b1 s v x w (q_y a b t f) (q_y a b t u)))), (0, mkB k n m nr sr a b c t (.os 1))]) := by
  obtain ⟨h1, h2, _⟩ := h
  have e1 := y_le h1
  have e2 := y_le h2
  have e3 := h1.2.1
  rw [bar_nil, if_pos (q_dec_iff.2 ⟨.inr rfl, _, _, _, _, _, _, _, _, rfl, h1⟩), if_pos (q_dec_iff.2 ⟨.inr rfl, _, _, _, _, _, _, _, _, rfl, h2⟩)]
  exact congrArg (fun z => some (PV.tup [], [(1, OB.rows 50 6 1 (appRow 0 (fun _ _ => .nilp) z)), (0, mkB k n m nr sr a b c t (.os 1))])) (bar_lit s v x w (q_y a b t f) (q_y a b t u) (by omega) (by omega))
theorem bar_row_eq (n m l : Nat) (k s v f u x w a b c t : Int) (nr sr row : Nat → Nat → PS) (h : q_barP a b c t f u l) : callF prog gl DY 1 O10 2 74 [.one (.ptr 0 0), i64 s, i64 v, i64 f, i64 u, i64 x, i64 w] [(0, mkB k n m nr sr a b c t (.os 1)), (1, .rows 50 6 l row)] = some (.tup [], [(1, .rows 50 6 (l + 1) (appRow l row (q_b1 s v x w (q_y a b t f) (q_y a b t u)))), (0, mkB k n m nr sr a b c t (.os 1))]) := by
  obtain ⟨h1, h2, h3⟩ := h
  have e1 := y_le h1
  have e2 := y_le h2
  have e3 := h1.2.1
  rw [bar_row, if_pos (q_dec_iff.2 ⟨.inl rfl, _, _, _, _, _, _, _, _, rfl, h1⟩), if_pos (q_dec_iff.2 ⟨.inl rfl, _, _, _, _, _, _, _, _, rfl, h2⟩), if_pos (by simp; omega)]
  exact congrArg (fun z => some (PV.tup [], [(1, OB.rows 50 6 (l + 1) (appRow l row z)), (0, mkB k n m nr sr a b c t (.os 1))])) (bar_lit s v x w (q_y a b t f) (q_y a b t u) (by omega) (by omega))
noncomputable def aBar : Nat → List PV → Heap → Option (Bool × PV × Heap)
  | 1, [.one (.ptr 0 0), .one (.int .i64 s), .one (.int .i64 v), .one (.int .i64 f), .one (.int .i64 u), .one (.int .i64 x), .one (.int .i64 w)], [(0, .box [.int .i64 k, .view n 1 nr, .view m 1 sr, .int .i64 a, .int .i64 b, .int .i64 c, .int .i64 t, .nils])] =>
    some (q_dec (q_barP a b c t f u 0), .tup [], [(1, .rows 50 6 1 (appRow 0 (fun _ _ => .nilp) (q_b1 s v x w (q_y a b t f) (q_y a b t u)))), (0, mkB k n m nr sr a b c t (.os 1))])
  | 2, [.one (.ptr 0 0), .one (.int .i64 s), .one (.int .i64 v), .one (.int .i64 f), .one (.int .i64 u), .one (.int .i64 x), .one (.int .i64 w)], [(0, .box [.int .i64 k, .view n 1 nr, .view m 1 sr, .int .i64 a, .int .i64 b, .int .i64 c, .int .i64 t, .os 1]), (1, .rows 50 6 l row)] =>
    some (q_dec (q_barP a b c t f u l), .tup [], [(1, .rows 50 6 (l + 1) (appRow l row (q_b1 s v x w (q_y a b t f) (q_y a b t u)))), (0, mkB k n m nr sr a b c t (.os 1))])
  | _, _, _ => none
noncomputable def O11 : Orac := addM 74 aBar O10
theorem sO11 : Sound prog gl O11 := add_ok (D := DY) sO10 sO10 mo (fun nb vs H v H' h => by
  unfold aBar at h
  split at h
  · obtain ⟨h1, h2, h3⟩ := by simpa using h
    subst h2 h3
    exact ⟨1, bar_nil_eq _ _ _ _ _ _ _ _ _ _ _ _ _ _ _ (q_dec_iff.1 h1)⟩
  · obtain ⟨h1, h2, h3⟩ := by simpa using h
    subst h2 h3
    exact ⟨1, bar_row_eq _ _ _ _ _ _ _ _ _ _ _ _ _ _ _ _ _ (q_dec_iff.1 h1)⟩
  · cases h)
end Go.Proofs.Ytfemkfodakfcmaa.Sh
