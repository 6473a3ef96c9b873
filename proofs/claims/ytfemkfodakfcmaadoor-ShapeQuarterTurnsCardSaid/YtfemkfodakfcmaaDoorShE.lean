import Derived.Test.YtfemkfodakfcmaaDoorShD
namespace Go.Proofs.YtfemkfodakfcmaaDoor.Sh
open Go Go.RowKit Go.Proofs.YtfemkfodakfcmaaDoor.Ev Go.Proofs.Tryd
set_option maxRecDepth 100000
def q_px (X Wd : Int) : Nat → Int
  | 1 => X + Wd
  | 2 => X + Wd
  | _ => X
def q_py (Y Ht : Int) : Nat → Int
  | 2 => Y + Ht
  | 3 => Y + Ht
  | _ => Y
/-- A shape's corner. -/
def q_cx (row : Nat → Nat → PS) (p X Y Wd Ht T : Int) (k : Nat) : Int := q_ox row p (q_tx (q_px X Wd k) (q_py Y Ht k) (2 * X + Wd) (2 * Y + Ht) T) (q_ty (q_px X Wd k) (q_py Y Ht k) (2 * X + Wd) (2 * Y + Ht) T)
def q_cy (row : Nat → Nat → PS) (p X Y Wd Ht T : Int) (k : Nat) : Int := q_oy row p (q_tx (q_px X Wd k) (q_py Y Ht k) (2 * X + Wd) (2 * Y + Ht) T) (q_ty (q_px X Wd k) (q_py Y Ht k) (2 * X + Wd) (2 * Y + Ht) T)
def q_corP (n : Nat) (row : Nat → Nat → PS) (p X Y Wd Ht T : Int) : Prop := ((-1000000 ≤ X ∧ X ≤ 1000000) ∧ (-1000000 ≤ Y ∧ Y ≤ 1000000) ∧ (-1000000 ≤ Wd ∧ Wd ≤ 1000000) ∧ (-1000000 ≤ Ht ∧ Ht ≤ 1000000) ∧ -4000 ≤ T ∧ T ≤ 4000) ∧ (p = 0 ∨ (q_isRw row ∧ Std n (fun i j => q_gi (row i j)) p ∧ (-2000 ≤ X ∧ X ≤ 2000) ∧ (-2000 ≤ Y ∧ Y ≤ 2000) ∧ (-2000 ≤ Wd ∧ Wd ≤ 2000) ∧ -2000 ≤ Ht ∧ Ht ≤ 2000))
def q_corC (row : Nat → Nat → PS) (p X Y Wd Ht T : Int) : List PS := [.int .i64 (q_cx row p X Y Wd Ht T 0), .int .i64 (q_cy row p X Y Wd Ht T 0), .int .i64 (q_cx row p X Y Wd Ht T 1), .int .i64 (q_cy row p X Y Wd Ht T 1), .int .i64 (q_cx row p X Y Wd Ht T 2), .int .i64 (q_cy row p X Y Wd Ht T 2), .int .i64 (q_cx row p X Y Wd Ht T 3), .int .i64 (q_cy row p X Y Wd Ht T 3)]
theorem corP_out {n : Nat} {row : Nat → Nat → PS} {p X Y Wd Ht T : Int} (h : q_corP n row p X Y Wd Ht T) (k : Nat) : q_dec (q_outP n row p (q_tx (q_px X Wd k) (q_py Y Ht k) (2 * X + Wd) (2 * Y + Ht) T) (q_ty (q_px X Wd k) (q_py Y Ht k) (2 * X + Wd) (2 * Y + Ht) T)) = true := by
  refine q_dec_iff.2 ?_
  rcases h.2 with h0 | ⟨h1, h2, h3, h4, h5, h6⟩
  · exact .inl h0
  · refine .inr ⟨h1, h2, ?_⟩
    have hx : -4000 ≤ q_px X Wd k ∧ q_px X Wd k ≤ 4000 := by unfold q_px; split <;> omega
    have hy : -4000 ≤ q_py Y Ht k ∧ q_py Y Ht k ≤ 4000 := by unfold q_py; split <;> omega
    have := tx_bd (A := 4000) (t := T) (by omega) hx hy (by omega : -6000 ≤ 2 * X + Wd ∧ 2 * X + Wd ≤ 6000) (by omega : -6000 ≤ 2 * Y + Ht ∧ 2 * Y + Ht ≤ 6000)
    omega
theorem cor_eq (n : Nat) (row : Nat → Nat → PS) (c0 c1 c2 c3 c4 c5 c6 c7 c8 c9 : Int) (s1 s2 : ByteArray) (h : q_corP n row c1 c3 c4 c5 c6 c7) : callF prog gl noD 6 O7 0 29 [.one (.view n 12 row), .agg [.int .i64 c0, .int .i64 c1, .int .i64 c2, .int .i64 c3, .int .i64 c4, .int .i64 c5, .int .i64 c6, .int .i64 c7, .int .i64 c8, .int .i64 c9, .str s1, .str s2]] [] = some (.agg (q_corC row c1 c3 c4 c5 c6 c7), []) := by
  rw [cor_raw]
  obtain ⟨h3, h4, h5, h6, h7⟩ := h.1
  rw [W_id (n := 2 * c3) (by omega) (by omega), W_id (n := 2 * c4) (by omega) (by omega), W_id (n := 2 * c3 + c5) (by omega) (by omega), W_id (n := 2 * c4 + c6) (by omega) (by omega), W_id (n := c3 + c5) (by omega) (by omega), W_id (n := c4 + c6) (by omega) (by omega)]
  have t1 : q_small 1000000000000 c3 = true := small_iff.2 (by omega)
  have t2 : q_small 1000000000000 c4 = true := small_iff.2 (by omega)
  have t3 : q_small 1000000000000 (2 * c3 + c5) = true := small_iff.2 (by omega)
  have t4 : q_small 1000000000000 (2 * c4 + c6) = true := small_iff.2 (by omega)
  have t5 : q_small 900000 c7 = true := small_iff.2 (by omega)
  have t6 : q_small 1000000000000 (c3 + c5) = true := small_iff.2 (by omega)
  have t7 : q_small 1000000000000 (c4 + c6) = true := small_iff.2 (by omega)
  have o0 := corP_out h 0
  have o1 := corP_out h 1
  have o2 := corP_out h 2
  have o3 := corP_out h 3
  simp only [q_px, q_py] at o0 o1 o2 o3
  rw [t1, t2, t3, t4, t5, t6, t7, o0, o1, o2, o3]
  rfl
noncomputable def aCor : Nat → List PV → Heap → Option (Bool × PV × Heap)
  | 0, [.one (.view n 12 row), .agg [.int .i64 _, .int .i64 c1, .int .i64 _, .int .i64 c3, .int .i64 c4, .int .i64 c5, .int .i64 c6, .int .i64 c7, .int .i64 _, .int .i64 _, .str _, .str _]], [] => some (q_dec (q_corP n row c1 c3 c4 c5 c6 c7), .agg (q_corC row c1 c3 c4 c5 c6 c7), [])
  | _, _, _ => none
noncomputable def O8 : Orac := addM 29 aCor O7
theorem sO8 : Sound prog gl O8 := add_ok (D := noD) sO7 sO7 mo (fun nb vs H v H' h => by
  unfold aCor at h
  split at h
  · rename_i n row c0 c1 c2 c3 c4 c5 c6 c7 c8 c9 s1 s2
    obtain ⟨h1, h2, h3⟩ : q_dec (q_corP n row c1 c3 c4 c5 c6 c7) = true ∧ .agg (q_corC row c1 c3 c4 c5 c6 c7) = v ∧ [] = H' := by simpa using h
    subst h2 h3
    exact ⟨6, cor_eq n row c0 c1 c2 c3 c4 c5 c6 c7 c8 c9 s1 s2 (q_dec_iff.1 h1)⟩
  · cases h)
/-! parents -/
abbrev pPar : List Bool := [true, false, true, false]
abbrev hPar (n : Nat) (row : Nat → Nat → PS) (d : Int) (a : PV) : En := [(5, none, i64 d), (4, none, i64 0), (3, none, .one (.ptr 3 0)), (0, none, .one (.view n 12 row)), (1, none, a)]
abbrev cel (c : Nat → Int) (s1 s2 : ByteArray) : List PS := [.int .i64 (c 0), .int .i64 (c 1), .int .i64 (c 2), .int .i64 (c 3), .int .i64 (c 4), .int .i64 (c 5), .int .i64 (c 6), .int .i64 (c 7), .int .i64 (c 8), .int .i64 (c 9), .str s1, .str s2]
theorem par_step (fl m n : Nat) (g : Nat → Nat → Int) (sx : Nat → Nat → ByteArray) (jx : Nat → Nat → PS) (d : Int) (a : PV) (c : Nat → Int) (s1 s2 : ByteArray) (K : Exit → En → Heap → Option (PV × Heap)) : rounds (bodyAt prog gl O8 noD f37 2 0 fl pPar) K (m + 1) (hPar n (rwj g sx jx) d a) [(3, .box (cel c s1 s2))] = (if (c (1 : Nat) != (0 : Int)) = true then (if (d == (20 : Int)) = true then (K (Exit.ret) ([((4 : Nat), none, i64 ((22 : Int))), ((5 : Nat), none, i64 (d)), ((3 : Nat), none, PV.one (PS.ptr (3 : Nat) (0 : Nat))), ((0 : Nat), none, PV.one (PS.view n (12 : Nat) (rwj g sx jx))), ((1 : Nat), none, a)]) ([((3 : Nat), OB.box [PS.int IntKind.i64 (c (0 : Nat)), PS.int IntKind.i64 (c (1 : Nat)), PS.int IntKind.i64 (c (2 : Nat)), PS.int IntKind.i64 (c (3 : Nat)), PS.int IntKind.i64 (c (4 : Nat)), PS.int IntKind.i64 (c (5 : Nat)), PS.int IntKind.i64 (c (6 : Nat)), PS.int IntKind.i64 (c (7 : Nat)), PS.int IntKind.i64 (c (8 : Nat)), PS.int IntKind.i64 (c (9 : Nat)), PS.str s1, PS.str s2])])) else (if (q_dec (q_isRw (rwj g sx jx)) && n.ble (1000000 : Nat)) = true then (if (decide (q_find n (fun i j ↦ q_gi (rwj g sx jx i j)) (c (1 : Nat)) < (0 : Int))) = true then (K (Exit.ret) ([((4 : Nat), none, i64 ((7 : Int))), ((6 : Nat), none, i64 ((q_find n (fun i j ↦ q_gi (rwj g sx jx i j)) (c (1 : Nat))))), ((5 : Nat), none, i64 (d)), ((3 : Nat), none, PV.one (PS.ptr (3 : Nat) (0 : Nat))), ((0 : Nat), none, PV.one (PS.view n (12 : Nat) (rwj g sx jx))), ((1 : Nat), none, a)]) ([((3 : Nat), OB.box [PS.int IntKind.i64 (c (0 : Nat)), PS.int IntKind.i64 (c (1 : Nat)), PS.int IntKind.i64 (c (2 : Nat)), PS.int IntKind.i64 (c (3 : Nat)), PS.int IntKind.i64 (c (4 : Nat)), PS.int IntKind.i64 (c (5 : Nat)), PS.int IntKind.i64 (c (6 : Nat)), PS.int IntKind.i64 (c (7 : Nat)), PS.int IntKind.i64 (c (8 : Nat)), PS.int IntKind.i64 (c (9 : Nat)), PS.str s1, PS.str s2])])) else (chk true (decide ((0 : Int) ≤ q_find n (fun i j ↦ q_gi (rwj g sx jx i j)) (c (1 : Nat))) && decide (q_find n (fun i j ↦ q_gi (rwj g sx jx i j)) (c (1 : Nat)) < ↑n)) (if (g (q_find n (fun i j ↦ q_gi (rwj g sx jx i j)) (c (1 : Nat))).toNat (2 : Nat) != (5 : Int)) = true then (K (Exit.ret) ([((4 : Nat), none, i64 ((8 : Int))), ((6 : Nat), none, i64 ((q_find n (fun i j ↦ q_gi (rwj g sx jx i j)) (c (1 : Nat))))), ((5 : Nat), none, i64 (d)), ((3 : Nat), none, PV.one (PS.ptr (3 : Nat) (0 : Nat))), ((0 : Nat), none, PV.one (PS.view n (12 : Nat) (rwj g sx jx))), ((1 : Nat), none, a)]) ([((3 : Nat), OB.box [PS.int IntKind.i64 (c (0 : Nat)), PS.int IntKind.i64 (c (1 : Nat)), PS.int IntKind.i64 (c (2 : Nat)), PS.int IntKind.i64 (c (3 : Nat)), PS.int IntKind.i64 (c (4 : Nat)), PS.int IntKind.i64 (c (5 : Nat)), PS.int IntKind.i64 (c (6 : Nat)), PS.int IntKind.i64 (c (7 : Nat)), PS.int IntKind.i64 (c (8 : Nat)), PS.int IntKind.i64 (c (9 : Nat)), PS.str s1, PS.str s2])])) else (chk true (decide ((0 : Int) ≤ q_find n (fun i j ↦ q_gi (rwj g sx jx i j)) (c (1 : Nat))) && decide (q_find n (fun i j ↦ q_gi (rwj g sx jx i j)) (c (1 : Nat)) < ↑n)) (rounds (bodyAt prog gl O8 noD f37 2 0 fl pPar) K m ([((5 : Nat), none, i64 ((W (d + (1 : Int))))), ((4 : Nat), none, i64 ((0 : Int))), ((3 : Nat), none, PV.one (PS.ptr (3 : Nat) (0 : Nat))), ((0 : Nat), none, PV.one (PS.view n (12 : Nat) (rwj g sx jx))), ((1 : Nat), none, a)]) ([((3 : Nat), OB.box [PS.int IntKind.i64 (g (q_find n (fun i j ↦ q_gi (rwj g sx jx i j)) (c (1 : Nat))).toNat (0 : Nat)), PS.int IntKind.i64 (g (q_find n (fun i j ↦ q_gi (rwj g sx jx i j)) (c (1 : Nat))).toNat (1 : Nat)), PS.int IntKind.i64 (g (q_find n (fun i j ↦ q_gi (rwj g sx jx i j)) (c (1 : Nat))).toNat (2 : Nat)), PS.int IntKind.i64 (g (q_find n (fun i j ↦ q_gi (rwj g sx jx i j)) (c (1 : Nat))).toNat (3 : Nat)), PS.int IntKind.i64 (g (q_find n (fun i j ↦ q_gi (rwj g sx jx i j)) (c (1 : Nat))).toNat (4 : Nat)), PS.int IntKind.i64 (g (q_find n (fun i j ↦ q_gi (rwj g sx jx i j)) (c (1 : Nat))).toNat (5 : Nat)), PS.int IntKind.i64 (g (q_find n (fun i j ↦ q_gi (rwj g sx jx i j)) (c (1 : Nat))).toNat (6 : Nat)), PS.int IntKind.i64 (g (q_find n (fun i j ↦ q_gi (rwj g sx jx i j)) (c (1 : Nat))).toNat (7 : Nat)), PS.int IntKind.i64 (g (q_find n (fun i j ↦ q_gi (rwj g sx jx i j)) (c (1 : Nat))).toNat (8 : Nat)), PS.int IntKind.i64 (g (q_find n (fun i j ↦ q_gi (rwj g sx jx i j)) (c (1 : Nat))).toNat (9 : Nat)), PS.str (sx (q_find n (fun i j ↦ q_gi (rwj g sx jx i j)) (c (1 : Nat))).toNat (10 : Nat)), PS.str (sx (q_find n (fun i j ↦ q_gi (rwj g sx jx i j)) (c (1 : Nat))).toNat (11 : Nat))])])))))) else none)) else (K (Exit.exit (0 : Nat)) ([((5 : Nat), none, i64 (d)), ((4 : Nat), none, i64 ((0 : Int))), ((3 : Nat), none, PV.one (PS.ptr (3 : Nat) (0 : Nat))), ((0 : Nat), none, PV.one (PS.view n (12 : Nat) (rwj g sx jx))), ((1 : Nat), none, a)]) ([((3 : Nat), OB.box [PS.int IntKind.i64 (c (0 : Nat)), PS.int IntKind.i64 (c (1 : Nat)), PS.int IntKind.i64 (c (2 : Nat)), PS.int IntKind.i64 (c (3 : Nat)), PS.int IntKind.i64 (c (4 : Nat)), PS.int IntKind.i64 (c (5 : Nat)), PS.int IntKind.i64 (c (6 : Nat)), PS.int IntKind.i64 (c (7 : Nat)), PS.int IntKind.i64 (c (8 : Nat)), PS.int IntKind.i64 (c (9 : Nat)), PS.str s1, PS.str s2])]))) := by kernel_rfl
theorem par_pre (fl n : Nat) (row : Nat → Nat → PS) (c : Nat → Int) (s1 s2 : ByteArray) : callF prog gl noD fl O8 0 37 [.one (.view n 12 row), .agg (cel c s1 s2)] [] = (rounds (bodyAt prog gl O8 noD f37 2 0 fl pPar) (kAt prog gl O8 noD f37 2 0 fl pPar) fl ([((5 : Nat), none, i64 ((1 : Int))), ((4 : Nat), none, i64 ((0 : Int))), ((3 : Nat), none, PV.one (PS.ptr (3 : Nat) (0 : Nat))), ((0 : Nat), none, PV.one (PS.view n (12 : Nat) row)), ((1 : Nat), none, PV.agg [PS.int IntKind.i64 (c (0 : Nat)), PS.int IntKind.i64 (c (1 : Nat)), PS.int IntKind.i64 (c (2 : Nat)), PS.int IntKind.i64 (c (3 : Nat)), PS.int IntKind.i64 (c (4 : Nat)), PS.int IntKind.i64 (c (5 : Nat)), PS.int IntKind.i64 (c (6 : Nat)), PS.int IntKind.i64 (c (7 : Nat)), PS.int IntKind.i64 (c (8 : Nat)), PS.int IntKind.i64 (c (9 : Nat)), PS.str s1, PS.str s2])]) ([((3 : Nat), OB.box [PS.int IntKind.i64 (c (0 : Nat)), PS.int IntKind.i64 (c (1 : Nat)), PS.int IntKind.i64 (c (2 : Nat)), PS.int IntKind.i64 (c (3 : Nat)), PS.int IntKind.i64 (c (4 : Nat)), PS.int IntKind.i64 (c (5 : Nat)), PS.int IntKind.i64 (c (6 : Nat)), PS.int IntKind.i64 (c (7 : Nat)), PS.int IntKind.i64 (c (8 : Nat)), PS.int IntKind.i64 (c (9 : Nat)), PS.str s1, PS.str s2])])) := by kernel_rfl
end Go.Proofs.YtfemkfodakfcmaaDoor.Sh
