import Derived.Test.YtfemkfodakfcmaaDoorShG
namespace Go.Proofs.YtfemkfodakfcmaaDoor.Sh
open Go Go.RowKit Go.Proofs.YtfemkfodakfcmaaDoor.Ev Go.Proofs.Tryd
set_option maxRecDepth 100000
/-! Corners -/
theorem crs_raw (fl n : Nat) (g : Nat → Nat → Int) (sx : Nat → Nat → ByteArray) (jx : Nat → Nat → PS) (x : Int) : callF prog gl noD fl Oa 0 15 [.one (.view n 12 (rwj g sx jx)), i64 x] [] = (if (q_dec (q_valP n (rwj g sx jx))) = true then (if (q_dec (q_isRw (rwj g sx jx)) && n.ble (1000000 : Nat)) = true then (if (decide (q_find n (fun i j ↦ q_gi (rwj g sx jx i j)) x < (0 : Int))) = true then (some ((PV.tup [PV.one PS.nils, i64 ((7 : Int))], []))) else (chk true (decide ((0 : Int) ≤ q_find n (fun i j ↦ q_gi (rwj g sx jx i j)) x) && decide (q_find n (fun i j ↦ q_gi (rwj g sx jx i j)) x < ↑n)) (if (q_dec (q_corP n (rwj g sx jx) (g (q_find n (fun i j ↦ q_gi (rwj g sx jx i j)) x).toNat (1 : Nat)) (g (q_find n (fun i j ↦ q_gi (rwj g sx jx i j)) x).toNat (3 : Nat)) (g (q_find n (fun i j ↦ q_gi (rwj g sx jx i j)) x).toNat (4 : Nat)) (g (q_find n (fun i j ↦ q_gi (rwj g sx jx i j)) x).toNat (5 : Nat)) (g (q_find n (fun i j ↦ q_gi (rwj g sx jx i j)) x).toNat (6 : Nat)) (g (q_find n (fun i j ↦ q_gi (rwj g sx jx i j)) x).toNat (7 : Nat)))) = true then (some ((PV.tup [PV.one (PS.view (4 : Nat) (2 : Nat) (litRow (2 : Nat) [PS.int IntKind.i64 (q_cx (rwj g sx jx) (g (q_find n (fun i j ↦ q_gi (rwj g sx jx i j)) x).toNat (1 : Nat)) (g (q_find n (fun i j ↦ q_gi (rwj g sx jx i j)) x).toNat (3 : Nat)) (g (q_find n (fun i j ↦ q_gi (rwj g sx jx i j)) x).toNat (4 : Nat)) (g (q_find n (fun i j ↦ q_gi (rwj g sx jx i j)) x).toNat (5 : Nat)) (g (q_find n (fun i j ↦ q_gi (rwj g sx jx i j)) x).toNat (6 : Nat)) (g (q_find n (fun i j ↦ q_gi (rwj g sx jx i j)) x).toNat (7 : Nat)) (0 : Nat)), PS.int IntKind.i64 (q_cy (rwj g sx jx) (g (q_find n (fun i j ↦ q_gi (rwj g sx jx i j)) x).toNat (1 : Nat)) (g (q_find n (fun i j ↦ q_gi (rwj g sx jx i j)) x).toNat (3 : Nat)) (g (q_find n (fun i j ↦ q_gi (rwj g sx jx i j)) x).toNat (4 : Nat)) (g (q_find n (fun i j ↦ q_gi (rwj g sx jx i j)) x).toNat (5 : Nat)) (g (q_find n (fun i j ↦ q_gi (rwj g sx jx i j)) x).toNat (6 : Nat)) (g (q_find n (fun i j ↦ q_gi (rwj g sx jx i j)) x).toNat (7 : Nat)) (0 : Nat)), PS.int IntKind.i64 (q_cx (rwj g sx jx) (g (q_find n (fun i j ↦ q_gi (rwj g sx jx i j)) x).toNat (1 : Nat)) (g (q_find n (fun i j ↦ q_gi (rwj g sx jx i j)) x).toNat (3 : Nat)) (g (q_find n (fun i j ↦ q_gi (rwj g sx jx i j)) x).toNat (4 : Nat)) (g (q_find n (fun i j ↦ q_gi (rwj g sx jx i j)) x).toNat (5 : Nat)) (g (q_find n (fun i j ↦ q_gi (rwj g sx jx i j)) x).toNat (6 : Nat)) (g (q_find n (fun i j ↦ q_gi (rwj g sx jx i j)) x).toNat (7 : Nat)) (1 : Nat)), PS.int IntKind.i64 (q_cy (rwj g sx jx) (g (q_find n (fun i j ↦ q_gi (rwj g sx jx i j)) x).toNat (1 : Nat)) (g (q_find n (fun i j ↦ q_gi (rwj g sx jx i j)) x).toNat (3 : Nat)) (g (q_find n (fun i j ↦ q_gi (rwj g sx jx i j)) x).toNat (4 : Nat)) (g (q_find n (fun i j ↦ q_gi (rwj g sx jx i j)) x).toNat (5 : Nat)) (g (q_find n (fun i j ↦ q_gi (rwj g sx jx i j)) x).toNat (6 : Nat)) (g (q_find n (fun i j ↦ q_gi (rwj g sx jx i j)) x).toNat (7 : Nat)) (1 : Nat)), PS.int IntKind.i64 (q_cx (rwj g sx jx) (g (q_find n (fun i j ↦ q_gi (rwj g sx jx i j)) x).toNat (1 : Nat)) (g (q_find n (fun i j ↦ q_gi (rwj g sx jx i j)) x).toNat (3 : Nat)) (g (q_find n (fun i j ↦ q_gi (rwj g sx jx i j)) x).toNat (4 : Nat)) (g (q_find n (fun i j ↦ q_gi (rwj g sx jx i j)) x).toNat (5 : Nat)) (g (q_find n (fun i j ↦ q_gi (rwj g sx jx i j)) x).toNat (6 : Nat)) (g (q_find n (fun i j ↦ q_gi (rwj g sx jx i j)) x).toNat (7 : Nat)) (2 : Nat)), PS.int IntKind.i64 (q_cy (rwj g sx jx) (g (q_find n (fun i j ↦ q_gi (rwj g sx jx i j)) x).toNat (1 : Nat)) (g (q_find n (fun i j ↦ q_gi (rwj g sx jx i j)) x).toNat (3 : Nat)) (g (q_find n (fun i j ↦ q_gi (rwj g sx jx i j)) x).toNat (4 : Nat)) (g (q_find n (fun i j ↦ q_gi (rwj g sx jx i j)) x).toNat (5 : Nat)) (g (q_find n (fun i j ↦ q_gi (rwj g sx jx i j)) x).toNat (6 : Nat)) (g (q_find n (fun i j ↦ q_gi (rwj g sx jx i j)) x).toNat (7 : Nat)) (2 : Nat)), PS.int IntKind.i64 (q_cx (rwj g sx jx) (g (q_find n (fun i j ↦ q_gi (rwj g sx jx i j)) x).toNat (1 : Nat)) (g (q_find n (fun i j ↦ q_gi (rwj g sx jx i j)) x).toNat (3 : Nat)) (g (q_find n (fun i j ↦ q_gi (rwj g sx jx i j)) x).toNat (4 : Nat)) (g (q_find n (fun i j ↦ q_gi (rwj g sx jx i j)) x).toNat (5 : Nat)) (g (q_find n (fun i j ↦ q_gi (rwj g sx jx i j)) x).toNat (6 : Nat)) (g (q_find n (fun i j ↦ q_gi (rwj g sx jx i j)) x).toNat (7 : Nat)) (3 : Nat)), PS.int IntKind.i64 (q_cy (rwj g sx jx) (g (q_find n (fun i j ↦ q_gi (rwj g sx jx i j)) x).toNat (1 : Nat)) (g (q_find n (fun i j ↦ q_gi (rwj g sx jx i j)) x).toNat (3 : Nat)) (g (q_find n (fun i j ↦ q_gi (rwj g sx jx i j)) x).toNat (4 : Nat)) (g (q_find n (fun i j ↦ q_gi (rwj g sx jx i j)) x).toNat (5 : Nat)) (g (q_find n (fun i j ↦ q_gi (rwj g sx jx i j)) x).toNat (6 : Nat)) (g (q_find n (fun i j ↦ q_gi (rwj g sx jx i j)) x).toNat (7 : Nat)) (3 : Nat))])), i64 ((0 : Int))], []))) else none))) else none) else none) := by kernel_rfl
/-- The corners of the shape of an item. -/
def q_at (n : Nat) (row : Nat → Nat → PS) (x : Int) (j : Nat) : Int := q_gi (row (q_find n (fun i j => q_gi (row i j)) x).toNat j)
def q_vx (n : Nat) (row : Nat → Nat → PS) (x : Int) (k : Nat) : Int := q_cx row (q_at n row x 1) (q_at n row x 3) (q_at n row x 4) (q_at n row x 5) (q_at n row x 6) (q_at n row x 7) k
def q_vy (n : Nat) (row : Nat → Nat → PS) (x : Int) (k : Nat) : Int := q_cy row (q_at n row x 1) (q_at n row x 3) (q_at n row x 4) (q_at n row x 5) (q_at n row x 6) (q_at n row x 7) k
def q_crsP (n : Nat) (row : Nat → Nat → PS) (x : Int) : Prop := q_valP n row ∧ (0 ≤ q_find n (fun i j => q_gi (row i j)) x ∧ q_find n (fun i j => q_gi (row i j)) x < n) ∧ q_corP n row (q_at n row x 1) (q_at n row x 3) (q_at n row x 4) (q_at n row x 5) (q_at n row x 6) (q_at n row x 7)
abbrev crsV (n : Nat) (row : Nat → Nat → PS) (x : Int) : PV := .tup [.one (.view 4 2 (litRow 2 [.int .i64 (q_vx n row x 0), .int .i64 (q_vy n row x 0), .int .i64 (q_vx n row x 1), .int .i64 (q_vy n row x 1), .int .i64 (q_vx n row x 2), .int .i64 (q_vy n row x 2), .int .i64 (q_vx n row x 3), .int .i64 (q_vy n row x 3)])), i64 0]
theorem crs_eq (n : Nat) (row : Nat → Nat → PS) (x : Int) (h : q_crsP n row x) : callF prog gl noD 1 Oa 0 15 [.one (.view n 12 row), i64 x] [] = some (crsV n row x, []) := by
  obtain ⟨h1, h2, h3⟩ := h
  have hn := h1.2.1
  obtain ⟨g, sx, jx, rfl⟩ := h1.1
  have e : ∀ i j, j < 10 → g i j = q_gi (rwj g sx jx i j) := fun i j hj => (gi_rwj g sx jx i j hj).symm
  rw [crs_raw, if_pos (q_dec_iff.2 h1), if_pos (by rw [isRw_rwj, Nat.ble_eq_true_of_le (by omega : n ≤ 1000000)]; rfl), if_neg (by simp <;> omega), chk_true (by simp <;> omega)]
  simp only [e _ 1 (by omega), e _ 3 (by omega), e _ 4 (by omega), e _ 5 (by omega), e _ 6 (by omega), e _ 7 (by omega)]
  exact (if_pos (q_dec_iff.2 h3)).trans rfl
noncomputable def aCrs : Nat → List PV → Heap → Option (Bool × PV × Heap)
  | 0, [.one (.view n 12 row), .one (.int .i64 x)], [] => some (q_dec (q_crsP n row x), crsV n row x, [])
  | _, _, _ => none
noncomputable def Ob : Orac := addM 15 aCrs Oa
theorem sOb : Sound prog gl Ob := add_ok (D := noD) sOa sOa mo (fun nb vs H v H' h => by
  unfold aCrs at h
  split at h
  · rename_i n row x
    obtain ⟨h1, h2, h3⟩ : q_dec (q_crsP n row x) = true ∧ crsV n row x = v ∧ [] = H' := by simpa using h
    subst h2 h3
    exact ⟨1, crs_eq n row x (q_dec_iff.1 h1)⟩
  · cases h)
/-! Bounds -/
theorem bnd_raw (n : Nat) (row : Nat → Nat → PS) (x : Int) : callF prog gl noD 6 Ob 0 18 [.one (.view n 12 row), i64 x] [] = (if (q_dec (q_crsP n row x)) = true then (some ((PV.tup [PV.agg [PS.int IntKind.i64 (bif decide (q_vx n row x (3 : Nat) < bif decide (q_vx n row x (2 : Nat) < bif decide (q_vx n row x (1 : Nat) < bif decide (q_vx n row x (0 : Nat) < q_vx n row x (0 : Nat)) then q_vx n row x (0 : Nat) else q_vx n row x (0 : Nat)) then q_vx n row x (1 : Nat) else bif decide (q_vx n row x (0 : Nat) < q_vx n row x (0 : Nat)) then q_vx n row x (0 : Nat) else q_vx n row x (0 : Nat)) then q_vx n row x (2 : Nat) else bif decide (q_vx n row x (1 : Nat) < bif decide (q_vx n row x (0 : Nat) < q_vx n row x (0 : Nat)) then q_vx n row x (0 : Nat) else q_vx n row x (0 : Nat)) then q_vx n row x (1 : Nat) else bif decide (q_vx n row x (0 : Nat) < q_vx n row x (0 : Nat)) then q_vx n row x (0 : Nat) else q_vx n row x (0 : Nat)) then q_vx n row x (3 : Nat) else bif decide (q_vx n row x (2 : Nat) < bif decide (q_vx n row x (1 : Nat) < bif decide (q_vx n row x (0 : Nat) < q_vx n row x (0 : Nat)) then q_vx n row x (0 : Nat) else q_vx n row x (0 : Nat)) then q_vx n row x (1 : Nat) else bif decide (q_vx n row x (0 : Nat) < q_vx n row x (0 : Nat)) then q_vx n row x (0 : Nat) else q_vx n row x (0 : Nat)) then q_vx n row x (2 : Nat) else bif decide (q_vx n row x (1 : Nat) < bif decide (q_vx n row x (0 : Nat) < q_vx n row x (0 : Nat)) then q_vx n row x (0 : Nat) else q_vx n row x (0 : Nat)) then q_vx n row x (1 : Nat) else bif decide (q_vx n row x (0 : Nat) < q_vx n row x (0 : Nat)) then q_vx n row x (0 : Nat) else q_vx n row x (0 : Nat)), PS.int IntKind.i64 (bif decide (q_vy n row x (3 : Nat) < bif decide (q_vy n row x (2 : Nat) < bif decide (q_vy n row x (1 : Nat) < bif decide (q_vy n row x (0 : Nat) < q_vy n row x (0 : Nat)) then q_vy n row x (0 : Nat) else q_vy n row x (0 : Nat)) then q_vy n row x (1 : Nat) else bif decide (q_vy n row x (0 : Nat) < q_vy n row x (0 : Nat)) then q_vy n row x (0 : Nat) else q_vy n row x (0 : Nat)) then q_vy n row x (2 : Nat) else bif decide (q_vy n row x (1 : Nat) < bif decide (q_vy n row x (0 : Nat) < q_vy n row x (0 : Nat)) then q_vy n row x (0 : Nat) else q_vy n row x (0 : Nat)) then q_vy n row x (1 : Nat) else bif decide (q_vy n row x (0 : Nat) < q_vy n row x (0 : Nat)) then q_vy n row x (0 : Nat) else q_vy n row x (0 : Nat)) then q_vy n row x (3 : Nat) else bif decide (q_vy n row x (2 : Nat) < bif decide (q_vy n row x (1 : Nat) < bif decide (q_vy n row x (0 : Nat) < q_vy n row x (0 : Nat)) then q_vy n row x (0 : Nat) else q_vy n row x (0 : Nat)) then q_vy n row x (1 : Nat) else bif decide (q_vy n row x (0 : Nat) < q_vy n row x (0 : Nat)) then q_vy n row x (0 : Nat) else q_vy n row x (0 : Nat)) then q_vy n row x (2 : Nat) else bif decide (q_vy n row x (1 : Nat) < bif decide (q_vy n row x (0 : Nat) < q_vy n row x (0 : Nat)) then q_vy n row x (0 : Nat) else q_vy n row x (0 : Nat)) then q_vy n row x (1 : Nat) else bif decide (q_vy n row x (0 : Nat) < q_vy n row x (0 : Nat)) then q_vy n row x (0 : Nat) else q_vy n row x (0 : Nat)), PS.int IntKind.i64 (bif decide (q_vx n row x (3 : Nat) > bif decide (q_vx n row x (2 : Nat) > bif decide (q_vx n row x (1 : Nat) > bif decide (q_vx n row x (0 : Nat) > q_vx n row x (0 : Nat)) then q_vx n row x (0 : Nat) else q_vx n row x (0 : Nat)) then q_vx n row x (1 : Nat) else bif decide (q_vx n row x (0 : Nat) > q_vx n row x (0 : Nat)) then q_vx n row x (0 : Nat) else q_vx n row x (0 : Nat)) then q_vx n row x (2 : Nat) else bif decide (q_vx n row x (1 : Nat) > bif decide (q_vx n row x (0 : Nat) > q_vx n row x (0 : Nat)) then q_vx n row x (0 : Nat) else q_vx n row x (0 : Nat)) then q_vx n row x (1 : Nat) else bif decide (q_vx n row x (0 : Nat) > q_vx n row x (0 : Nat)) then q_vx n row x (0 : Nat) else q_vx n row x (0 : Nat)) then q_vx n row x (3 : Nat) else bif decide (q_vx n row x (2 : Nat) > bif decide (q_vx n row x (1 : Nat) > bif decide (q_vx n row x (0 : Nat) > q_vx n row x (0 : Nat)) then q_vx n row x (0 : Nat) else q_vx n row x (0 : Nat)) then q_vx n row x (1 : Nat) else bif decide (q_vx n row x (0 : Nat) > q_vx n row x (0 : Nat)) then q_vx n row x (0 : Nat) else q_vx n row x (0 : Nat)) then q_vx n row x (2 : Nat) else bif decide (q_vx n row x (1 : Nat) > bif decide (q_vx n row x (0 : Nat) > q_vx n row x (0 : Nat)) then q_vx n row x (0 : Nat) else q_vx n row x (0 : Nat)) then q_vx n row x (1 : Nat) else bif decide (q_vx n row x (0 : Nat) > q_vx n row x (0 : Nat)) then q_vx n row x (0 : Nat) else q_vx n row x (0 : Nat)), PS.int IntKind.i64 (bif decide (q_vy n row x (3 : Nat) > bif decide (q_vy n row x (2 : Nat) > bif decide (q_vy n row x (1 : Nat) > bif decide (q_vy n row x (0 : Nat) > q_vy n row x (0 : Nat)) then q_vy n row x (0 : Nat) else q_vy n row x (0 : Nat)) then q_vy n row x (1 : Nat) else bif decide (q_vy n row x (0 : Nat) > q_vy n row x (0 : Nat)) then q_vy n row x (0 : Nat) else q_vy n row x (0 : Nat)) then q_vy n row x (2 : Nat) else bif decide (q_vy n row x (1 : Nat) > bif decide (q_vy n row x (0 : Nat) > q_vy n row x (0 : Nat)) then q_vy n row x (0 : Nat) else q_vy n row x (0 : Nat)) then q_vy n row x (1 : Nat) else bif decide (q_vy n row x (0 : Nat) > q_vy n row x (0 : Nat)) then q_vy n row x (0 : Nat) else q_vy n row x (0 : Nat)) then q_vy n row x (3 : Nat) else bif decide (q_vy n row x (2 : Nat) > bif decide (q_vy n row x (1 : Nat) > bif decide (q_vy n row x (0 : Nat) > q_vy n row x (0 : Nat)) then q_vy n row x (0 : Nat) else q_vy n row x (0 : Nat)) then q_vy n row x (1 : Nat) else bif decide (q_vy n row x (0 : Nat) > q_vy n row x (0 : Nat)) then q_vy n row x (0 : Nat) else q_vy n row x (0 : Nat)) then q_vy n row x (2 : Nat) else bif decide (q_vy n row x (1 : Nat) > bif decide (q_vy n row x (0 : Nat) > q_vy n row x (0 : Nat)) then q_vy n row x (0 : Nat) else q_vy n row x (0 : Nat)) then q_vy n row x (1 : Nat) else bif decide (q_vy n row x (0 : Nat) > q_vy n row x (0 : Nat)) then q_vy n row x (0 : Nat) else q_vy n row x (0 : Nat))], i64 ((0 : Int))], []))) else none) := by kernel_rfl
def q_mn (a b : Int) : Int := bif decide (b < a) then b else a
def q_mx (a b : Int) : Int := bif decide (b > a) then b else a
def q_mn4 (f : Nat → Int) : Int := q_mn (q_mn (q_mn (q_mn (f 0) (f 0)) (f 1)) (f 2)) (f 3)
def q_mx4 (f : Nat → Int) : Int := q_mx (q_mx (q_mx (q_mx (f 0) (f 0)) (f 1)) (f 2)) (f 3)
theorem bnd_eq (n : Nat) (row : Nat → Nat → PS) (x : Int) (h : q_crsP n row x) : callF prog gl noD 6 Ob 0 18 [.one (.view n 12 row), i64 x] [] = some (.tup [.agg [.int .i64 (q_mn4 (q_vx n row x)), .int .i64 (q_mn4 (q_vy n row x)), .int .i64 (q_mx4 (q_vx n row x)), .int .i64 (q_mx4 (q_vy n row x))], i64 0], []) := by
  rw [bnd_raw, if_pos (q_dec_iff.2 h)]
  rfl
noncomputable def aBnd : Nat → List PV → Heap → Option (Bool × PV × Heap)
  | 0, [.one (.view n 12 row), .one (.int .i64 x)], [] => some (q_dec (q_crsP n row x), .tup [.agg [.int .i64 (q_mn4 (q_vx n row x)), .int .i64 (q_mn4 (q_vy n row x)), .int .i64 (q_mx4 (q_vx n row x)), .int .i64 (q_mx4 (q_vy n row x))], i64 0], [])
  | _, _, _ => none
noncomputable def Oc : Orac := addM 18 aBnd Ob
theorem sOc : Sound prog gl Oc := add_ok (D := noD) sOb sOb mo (fun nb vs H v H' h => by
  unfold aBnd at h
  split at h
  · rename_i n row x
    obtain ⟨h1, h2, h3⟩ : q_dec (q_crsP n row x) = true ∧ .tup [.agg [.int .i64 (q_mn4 (q_vx n row x)), .int .i64 (q_mn4 (q_vy n row x)), .int .i64 (q_mx4 (q_vx n row x)), .int .i64 (q_mx4 (q_vy n row x))], i64 0] = v ∧ [] = H' := by simpa using h
    subst h2 h3
    exact ⟨6, bnd_eq n row x (q_dec_iff.1 h1)⟩
  · cases h)
/-! inside -/
theorem ins_raw (fl : Nat) (c : Nat → Int) (s1 s2 : ByteArray) (x y : Int) : callF prog gl noD fl Oc 0 31 [.agg (cel c s1 s2), i64 x, i64 y] [] = (if (bif bif bif decide (x < c (3 : Nat)) then true else decide (x > W (c (3 : Nat) + c (5 : Nat))) then true else decide (y < c (4 : Nat)) then true else decide (y > W (c (4 : Nat) + c (6 : Nat)))) = true then (some ((PV.one (PS.bool false), []))) else (if (bif bif c (2 : Nat) != (1 : Int) then true else c (5 : Nat) == (0 : Int) then true else c (6 : Nat) == (0 : Int)) = true then (some ((PV.one (PS.bool true), []))) else (if (q_small (1000000000000000000 : Nat) (W ((1024 : Int) * W (W (W ((2 : Int) * x) - W ((2 : Int) * c (3 : Nat))) - c (5 : Nat)))) && (q_small (1000000000000000000 : Nat) (c (5 : Nat)) && decide ((0 : Int) < c (5 : Nat)))) = true then (if (q_small (1000000000000000000 : Nat) (W ((1024 : Int) * W (W (W ((2 : Int) * y) - W ((2 : Int) * c (4 : Nat))) - c (6 : Nat)))) && (q_small (1000000000000000000 : Nat) (c (6 : Nat)) && decide ((0 : Int) < c (6 : Nat)))) = true then (some ((PV.one (PS.bool (decide (W (W (q_round (W ((1024 : Int) * W (W (W ((2 : Int) * x) - W ((2 : Int) * c (3 : Nat))) - c (5 : Nat)))) (c (5 : Nat)) * q_round (W ((1024 : Int) * W (W (W ((2 : Int) * x) - W ((2 : Int) * c (3 : Nat))) - c (5 : Nat)))) (c (5 : Nat))) + W (q_round (W ((1024 : Int) * W (W (W ((2 : Int) * y) - W ((2 : Int) * c (4 : Nat))) - c (6 : Nat)))) (c (6 : Nat)) * q_round (W ((1024 : Int) * W (W (W ((2 : Int) * y) - W ((2 : Int) * c (4 : Nat))) - c (6 : Nat)))) (c (6 : Nat)))) ≤ (1048576 : Int)))), []))) else none) else none))) := by kernel_rfl
/-- Is a point in a shape? -/
def q_ins (k X Y Wd Ht x y : Int) : Bool := if (x < X ∨ x > X + Wd ∨ y < Y ∨ y > Y + Ht) then false else if (k ≠ 1 ∨ Wd = 0 ∨ Ht = 0) then true else decide (q_round (1024 * (2 * x - 2 * X - Wd)) Wd * q_round (1024 * (2 * x - 2 * X - Wd)) Wd + q_round (1024 * (2 * y - 2 * Y - Ht)) Ht * q_round (1024 * (2 * y - 2 * Y - Ht)) Ht ≤ 1048576)
theorem round_bd {z b : Int} (hb : 0 < b) (h : -b ≤ z ∧ z ≤ b) : -1 ≤ (2 * (1024 * z) + b) / (2 * b) + 1024 ∧ (2 * (1024 * z) + b) / (2 * b) ≤ 1024 := by
  have h1 : -1024 ≤ (2 * (1024 * z) + b) / (2 * b) := by
    rw [Int.le_ediv_iff_mul_le (by omega)]
    have : -1024 * (2 * b) = -2048 * b := by rw [← Int.mul_assoc]; rfl
    omega
  have h2 : (2 * (1024 * z) + b) / (2 * b) < 1025 := by
    rw [Int.ediv_lt_iff_lt_mul (by omega)]
    have : 1025 * (2 * b) = 2050 * b := by rw [← Int.mul_assoc]; rfl
    omega
  omega
theorem ins_eq (fl : Nat) (c : Nat → Int) (s1 s2 : ByteArray) (x y : Int) (h : (-10000000 ≤ x ∧ x ≤ 10000000) ∧ (-10000000 ≤ y ∧ y ≤ 10000000) ∧ (-1000000 ≤ c 3 ∧ c 3 ≤ 1000000) ∧ (-1000000 ≤ c 4 ∧ c 4 ≤ 1000000) ∧ (0 ≤ c 5 ∧ c 5 ≤ 1000000) ∧ (0 ≤ c 6 ∧ c 6 ≤ 1000000)) : callF prog gl noD fl Oc 0 31 [.agg (cel c s1 s2), i64 x, i64 y] [] = some (bl (q_ins (c 2) (c 3) (c 4) (c 5) (c 6) x y), []) := by
  rw [ins_raw]
  obtain ⟨hx, hy, h3, h4, h5, h6⟩ := h
  generalize c 2 = k at *
  generalize c 3 = X at *
  generalize c 4 = Y at *
  generalize c 5 = Wd at *
  generalize c 6 = Ht at *
  rw [W_id (n := X + Wd) (by omega) (by omega), W_id (n := Y + Ht) (by omega) (by omega)]
  unfold q_ins
  by_cases c1 : x < X ∨ x > X + Wd ∨ y < Y ∨ y > Y + Ht
  · rw [if_pos (c := (x < X ∨ _)) c1, if_pos (by rcases c1 with c | c | c | c <;> simp [c])]
  · rw [if_neg (c := (x < X ∨ _)) c1, if_neg (by
      have a1 : ¬ x < X := fun h => c1 (.inl h)
      have a2 : ¬ x > X + Wd := fun h => c1 (.inr (.inl h))
      have a3 : ¬ y < Y := fun h => c1 (.inr (.inr (.inl h)))
      have a4 : ¬ y > Y + Ht := fun h => c1 (.inr (.inr (.inr h)))
      simp [a1, a2, a3, a4])]
    by_cases c2 : k ≠ 1 ∨ Wd = 0 ∨ Ht = 0
    · rw [if_pos (c := (k ≠ 1 ∨ _)) c2, if_pos (by rcases c2 with c | c | c <;> simp [c])]
    · rw [if_neg (c := (k ≠ 1 ∨ _)) c2, if_neg (by
        have a1 : k = 1 := by omega
        have a2 : ¬ Wd = 0 := by omega
        have a3 : ¬ Ht = 0 := by omega
        simp [a1, a2, a3])]
      rw [W_id (n := 2 * x) (by omega) (by omega), W_id (n := 2 * X) (by omega) (by omega), W_id (n := 2 * y) (by omega) (by omega), W_id (n := 2 * Y) (by omega) (by omega), W_id (n := 2 * x - 2 * X) (by omega) (by omega), W_id (n := 2 * y - 2 * Y) (by omega) (by omega), W_id (n := 2 * x - 2 * X - Wd) (by omega) (by omega), W_id (n := 2 * y - 2 * Y - Ht) (by omega) (by omega), W_id (n := 1024 * (2 * x - 2 * X - Wd)) (by omega) (by omega), W_id (n := 1024 * (2 * y - 2 * Y - Ht)) (by omega) (by omega)]
      have s1 : q_small 1000000000000000000 (1024 * (2 * x - 2 * X - Wd)) = true := small_iff.2 (by omega)
      have s2 : q_small 1000000000000000000 (1024 * (2 * y - 2 * Y - Ht)) = true := small_iff.2 (by omega)
      have s3 : q_small 1000000000000000000 Wd = true := small_iff.2 (by omega)
      have s4 : q_small 1000000000000000000 Ht = true := small_iff.2 (by omega)
      rw [if_pos (by rw [s1, s3]; simp <;> omega), if_pos (by rw [s2, s4]; simp <;> omega)]
      have b1 := round_bd (z := 2 * x - 2 * X - Wd) (b := Wd) (by omega) (by omega)
      have b2 := round_bd (z := 2 * y - 2 * Y - Ht) (b := Ht) (by omega) (by omega)
      have e1 : -1025 ≤ q_round (1024 * (2 * x - 2 * X - Wd)) Wd ∧ q_round (1024 * (2 * x - 2 * X - Wd)) Wd ≤ 1025 := by unfold q_round; omega
      have e2 : -1025 ≤ q_round (1024 * (2 * y - 2 * Y - Ht)) Ht ∧ q_round (1024 * (2 * y - 2 * Y - Ht)) Ht ≤ 1025 := by unfold q_round; omega
      generalize q_round (1024 * (2 * x - 2 * X - Wd)) Wd = u at *
      generalize q_round (1024 * (2 * y - 2 * Y - Ht)) Ht = v at *
      have m1 := mul_bd (by omega) (by omega) e1 e1
      have m2 := mul_bd (by omega) (by omega) e2 e2
      rw [W_id (n := u * u) (by omega) (by omega), W_id (n := v * v) (by omega) (by omega), W_id (n := u * u + v * v) (by omega) (by omega)]
end Go.Proofs.YtfemkfodakfcmaaDoor.Sh
