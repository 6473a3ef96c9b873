import Derived.Test.YtfemkfodakfcmaaDoorShH
namespace Go.Proofs.YtfemkfodakfcmaaDoor.Sh
open Go Go.RowKit Go.Proofs.YtfemkfodakfcmaaDoor.Ev Go.Proofs.Tryd
set_option maxRecDepth 100000
def q_insP (X Y Wd Ht x y : Int) : Prop := (-10000000 ≤ x ∧ x ≤ 10000000) ∧ (-10000000 ≤ y ∧ y ≤ 10000000) ∧ (-1000000 ≤ X ∧ X ≤ 1000000) ∧ (-1000000 ≤ Y ∧ Y ≤ 1000000) ∧ (0 ≤ Wd ∧ Wd ≤ 1000000) ∧ (0 ≤ Ht ∧ Ht ≤ 1000000)
noncomputable def aIns : Nat → List PV → Heap → Option (Bool × PV × Heap)
  | 0, [.agg [.int .i64 _, .int .i64 _, .int .i64 c2, .int .i64 c3, .int .i64 c4, .int .i64 c5, .int .i64 c6, .int .i64 _, .int .i64 _, .int .i64 _, .str _, .str _], .one (.int .i64 x), .one (.int .i64 y)], [] => some (q_dec (q_insP c3 c4 c5 c6 x y), bl (q_ins c2 c3 c4 c5 c6 x y), [])
  | _, _, _ => none
noncomputable def Od : Orac := addM 31 aIns Oc
abbrev cellsOf10 (c0 c1 c2 c3 c4 c5 c6 c7 c8 c9 : Int) : Nat → Int := fun j => match j with | 0 => c0 | 1 => c1 | 2 => c2 | 3 => c3 | 4 => c4 | 5 => c5 | 6 => c6 | 7 => c7 | 8 => c8 | _ => c9
theorem sOd : Sound prog gl Od := add_ok (D := noD) sOc sOc mo (fun nb vs H v H' h => by
  unfold aIns at h
  split at h
  · rename_i c0 c1 c2 c3 c4 c5 c6 c7 c8 c9 s1 s2 x y
    obtain ⟨h1, h2, h3⟩ : q_dec (q_insP c3 c4 c5 c6 x y) = true ∧ bl (q_ins c2 c3 c4 c5 c6 x y) = v ∧ [] = H' := by simpa using h
    subst h2 h3
    exact ⟨1, ins_eq 1 (cellsOf10 c0 c1 c2 c3 c4 c5 c6 c7 c8 c9) s1 s2 x y (q_dec_iff.1 h1)⟩
  · cases h)
/-! local, where nothing is turned -/
def offF (g : Nat → Nat → Int) : Nat → Int → Nat → Int
  | 0, _, _ => 0
  | k + 1, p, j => if p = 0 then 0 else g (p - 1).toNat j + offF g k (g (p - 1).toNat 1) j
def q_off (row : Nat → Nat → PS) (p : Int) (j : Nat) : Int := offF (fun i j => q_gi (row i j)) 10 p j
def q_locP (k n : Nat) (row : Nat → Nat → PS) (p X Y Wd Ht T x y : Int) : Prop := T = 0 ∧ p ≤ k ∧ ((-1000000 ≤ X ∧ X ≤ 1000000) ∧ (-1000000 ≤ Y ∧ Y ≤ 1000000) ∧ (-1000000 ≤ Wd ∧ Wd ≤ 1000000) ∧ (-1000000 ≤ Ht ∧ Ht ≤ 1000000)) ∧ ((-2000000 ≤ x ∧ x ≤ 2000000) ∧ -2000000 ≤ y ∧ y ≤ 2000000) ∧ (p = 0 ∨ (q_isRw row ∧ Std n (fun i j => q_gi (row i j)) p ∧ ∀ i : Nat, (i : Int) < p → q_gi (row i 7) = 0))
noncomputable def aLoc (k : Nat) : Nat → List PV → Heap → Option (Bool × PV × Heap)
  | 0, [.one (.view n 12 row), .agg [.int .i64 _, .int .i64 c1, .int .i64 _, .int .i64 c3, .int .i64 c4, .int .i64 c5, .int .i64 c6, .int .i64 c7, .int .i64 _, .int .i64 _, .str _, .str _], .one (.int .i64 x), .one (.int .i64 y)], [] => some (q_dec (q_locP k n row c1 c3 c4 c5 c6 c7 x y), .tup [i64 (x - q_off row c1 3), i64 (y - q_off row c1 4)], [])
  | _, _, _ => none
noncomputable def Oe (k : Nat) : Orac := addM 30 (aLoc k) Od
theorem loc_raw0 (fl n : Nat) (M : Orac) (row : Nat → Nat → PS) (c0 c2 c3 c4 c5 c6 c7 c8 c9 : Int) (s1 s2 : ByteArray) (x y : Int) : callF prog gl noD fl (addM 32 aTurned M) 0 30 [.one (.view n 12 row), (.agg [.int .i64 c0, .int .i64 0, .int .i64 c2, .int .i64 c3, .int .i64 c4, .int .i64 c5, .int .i64 c6, .int .i64 c7, .int .i64 c8, .int .i64 c9, .str s1, .str s2]), i64 x, i64 y] [] = (if (q_small (1000000000000 : Nat) x && (q_small (1000000000000 : Nat) y && (q_small (1000000000000 : Nat) (W (W ((2 : Int) * c3) + c5)) && (q_small (1000000000000 : Nat) (W (W ((2 : Int) * c4) + c6)) && q_small (900000 : Nat) (W ((0 : Int) - c7)))))) = true then (some ((PV.tup [i64 ((q_tx x y (W (W ((2 : Int) * c3) + c5)) (W (W ((2 : Int) * c4) + c6)) (W ((0 : Int) - c7)))), i64 ((q_ty x y (W (W ((2 : Int) * c3) + c5)) (W (W ((2 : Int) * c4) + c6)) (W ((0 : Int) - c7))))], []))) else none) := by kernel_rfl
theorem loc_raw (fl k n : Nat) (g : Nat → Nat → Int) (sx : Nat → Nat → ByteArray) (jx : Nat → Nat → PS) (c : Nat → Int) (s1 s2 : ByteArray) (x y : Int) : callF prog gl noD fl (Oe k) 0 30 [.one (.view n 12 (rwj g sx jx)), .agg (cel c s1 s2), i64 x, i64 y] [] = (if (c (1 : Nat) != (0 : Int)) = true then (if (q_dec (q_isRw (rwj g sx jx)) && n.ble (1000000 : Nat)) = true then (chk true (decide ((0 : Int) ≤ q_find n (fun i j ↦ q_gi (rwj g sx jx i j)) (c (1 : Nat))) && decide (q_find n (fun i j ↦ q_gi (rwj g sx jx i j)) (c (1 : Nat)) < ↑n)) (if (q_dec (q_locP k n (rwj g sx jx) (g (q_find n (fun i j ↦ q_gi (rwj g sx jx i j)) (c (1 : Nat))).toNat (1 : Nat)) (g (q_find n (fun i j ↦ q_gi (rwj g sx jx i j)) (c (1 : Nat))).toNat (3 : Nat)) (g (q_find n (fun i j ↦ q_gi (rwj g sx jx i j)) (c (1 : Nat))).toNat (4 : Nat)) (g (q_find n (fun i j ↦ q_gi (rwj g sx jx i j)) (c (1 : Nat))).toNat (5 : Nat)) (g (q_find n (fun i j ↦ q_gi (rwj g sx jx i j)) (c (1 : Nat))).toNat (6 : Nat)) (g (q_find n (fun i j ↦ q_gi (rwj g sx jx i j)) (c (1 : Nat))).toNat (7 : Nat)) x y)) = true then (if (q_small (1000000000000 : Nat) (W (x - q_off (rwj g sx jx) (g (q_find n (fun i j ↦ q_gi (rwj g sx jx i j)) (c (1 : Nat))).toNat (1 : Nat)) (3 : Nat) - g (q_find n (fun i j ↦ q_gi (rwj g sx jx i j)) (c (1 : Nat))).toNat (3 : Nat))) && (q_small (1000000000000 : Nat) (W (y - q_off (rwj g sx jx) (g (q_find n (fun i j ↦ q_gi (rwj g sx jx i j)) (c (1 : Nat))).toNat (1 : Nat)) (4 : Nat) - g (q_find n (fun i j ↦ q_gi (rwj g sx jx i j)) (c (1 : Nat))).toNat (4 : Nat))) && (q_small (1000000000000 : Nat) (W (W ((2 : Int) * c (3 : Nat)) + c (5 : Nat))) && (q_small (1000000000000 : Nat) (W (W ((2 : Int) * c (4 : Nat)) + c (6 : Nat))) && q_small (900000 : Nat) (W ((0 : Int) - c (7 : Nat))))))) = true then (some ((PV.tup [i64 ((q_tx (W (x - q_off (rwj g sx jx) (g (q_find n (fun i j ↦ q_gi (rwj g sx jx i j)) (c (1 : Nat))).toNat (1 : Nat)) (3 : Nat) - g (q_find n (fun i j ↦ q_gi (rwj g sx jx i j)) (c (1 : Nat))).toNat (3 : Nat))) (W (y - q_off (rwj g sx jx) (g (q_find n (fun i j ↦ q_gi (rwj g sx jx i j)) (c (1 : Nat))).toNat (1 : Nat)) (4 : Nat) - g (q_find n (fun i j ↦ q_gi (rwj g sx jx i j)) (c (1 : Nat))).toNat (4 : Nat))) (W (W ((2 : Int) * c (3 : Nat)) + c (5 : Nat))) (W (W ((2 : Int) * c (4 : Nat)) + c (6 : Nat))) (W ((0 : Int) - c (7 : Nat))))), i64 ((q_ty (W (x - q_off (rwj g sx jx) (g (q_find n (fun i j ↦ q_gi (rwj g sx jx i j)) (c (1 : Nat))).toNat (1 : Nat)) (3 : Nat) - g (q_find n (fun i j ↦ q_gi (rwj g sx jx i j)) (c (1 : Nat))).toNat (3 : Nat))) (W (y - q_off (rwj g sx jx) (g (q_find n (fun i j ↦ q_gi (rwj g sx jx i j)) (c (1 : Nat))).toNat (1 : Nat)) (4 : Nat) - g (q_find n (fun i j ↦ q_gi (rwj g sx jx i j)) (c (1 : Nat))).toNat (4 : Nat))) (W (W ((2 : Int) * c (3 : Nat)) + c (5 : Nat))) (W (W ((2 : Int) * c (4 : Nat)) + c (6 : Nat))) (W ((0 : Int) - c (7 : Nat)))))], []))) else none) else none)) else none) else (if (q_small (1000000000000 : Nat) x && (q_small (1000000000000 : Nat) y && (q_small (1000000000000 : Nat) (W (W ((2 : Int) * c (3 : Nat)) + c (5 : Nat))) && (q_small (1000000000000 : Nat) (W (W ((2 : Int) * c (4 : Nat)) + c (6 : Nat))) && q_small (900000 : Nat) (W ((0 : Int) - c (7 : Nat))))))) = true then (some ((PV.tup [i64 ((q_tx x y (W (W ((2 : Int) * c (3 : Nat)) + c (5 : Nat))) (W (W ((2 : Int) * c (4 : Nat)) + c (6 : Nat))) (W ((0 : Int) - c (7 : Nat))))), i64 ((q_ty x y (W (W ((2 : Int) * c (3 : Nat)) + c (5 : Nat))) (W (W ((2 : Int) * c (4 : Nat)) + c (6 : Nat))) (W ((0 : Int) - c (7 : Nat)))))], []))) else none)) := by kernel_rfl
theorem sn0 : q_sn 0 = 0 := by decide
theorem sn900 : q_sn (0 + 900) = 65536 := by decide
theorem tx0 (x y cx cy : Int) : q_tx x y cx cy 0 = x := by
  unfold q_tx
  rw [round17, sn0, sn900]
  omega
theorem ty0 (x y cx cy : Int) : q_ty x y cx cy 0 = y := by
  unfold q_ty
  rw [round17, sn0, sn900]
  omega
theorem off_fuel {n : Nat} {g : Nat → Nat → Int} {j : Nat} : ∀ (k k' : Nat) (p : Int), Std n g p → p ≤ k → p ≤ k' → offF g k p j = offF g k' p j := by
  intro k
  induction k with
  | zero =>
    intro k' p hS h1 h2
    obtain rfl : p = 0 := by have := hS.2.1; omega
    cases k' <;> rfl
  | succ k ih =>
    intro k' p hS h1 h2
    by_cases h0 : p = 0
    · subst h0; cases k' <;> rfl
    · obtain ⟨k', rfl⟩ : ∃ q, k' = q + 1 := ⟨k' - 1, by have := hS.2.1; omega⟩
      unfold offF
      rw [if_neg h0, if_neg h0]
      obtain ⟨hn, hp0, hpn, hg⟩ := hS
      have hi : (((p - 1).toNat : Nat) : Int) = p - 1 := Int.toNat_of_nonneg (by omega)
      obtain ⟨_, g1, g1', _⟩ := hg (p - 1).toNat (by omega)
      rw [ih k' (g (p - 1).toNat 1) ⟨hn, g1, by omega, fun i h => hg i (by omega)⟩ (by omega) (by omega)]
theorem off_bd {n : Nat} {g : Nat → Nat → Int} {j : Nat} (hj : 3 ≤ j ∧ j ≤ 6) : ∀ (k : Nat) (p : Int), Std n g p → -2000 * (k : Int) ≤ offF g k p j ∧ offF g k p j ≤ 2000 * (k : Int) := by
  intro k
  induction k with
  | zero => intro p _; exact ⟨by unfold offF; omega, by unfold offF; omega⟩
  | succ k ih =>
    intro p hS
    by_cases h0 : p = 0
    · subst h0
      unfold offF
      rw [if_pos rfl]
      omega
    · unfold offF
      rw [if_neg h0]
      obtain ⟨hn, hp0, hpn, hg⟩ := hS
      have hi : (((p - 1).toNat : Nat) : Int) = p - 1 := Int.toNat_of_nonneg (by omega)
      obtain ⟨_, g1, g1', g3, _⟩ := hg (p - 1).toNat (by omega)
      have := ih (g (p - 1).toNat 1) ⟨hn, g1, by omega, fun i h => hg i (by omega)⟩
      have h3 := g3 j hj.1 hj.2
      omega
/-- One group more. -/
theorem off_up {n : Nat} {g : Nat → Nat → Int} {j : Nat} {p : Int} (hS : Std n g p) (h0 : p ≠ 0) : offF g 10 p j = g (p - 1).toNat j + offF g 10 (g (p - 1).toNat 1) j := by
  have h1 : offF g 10 p j = g (p - 1).toNat j + offF g 9 (g (p - 1).toNat 1) j := by conv => lhs; unfold offF; rw [if_neg h0]
  obtain ⟨hn, hp0, hpn, hg⟩ := hS
  have hi : (((p - 1).toNat : Nat) : Int) = p - 1 := Int.toNat_of_nonneg (by omega)
  obtain ⟨_, g1, g1', g3, _⟩ := hg (p - 1).toNat (by omega)
  rw [h1, off_fuel 9 10 (g (p - 1).toNat 1) ⟨hn, g1, by omega, fun i h => hg i (by omega)⟩ (by omega) (by omega)]
theorem off_zero (g : Nat → Nat → Int) (k j : Nat) : offF g k 0 j = 0 := by cases k <;> rfl
theorem loc_eq0 (n : Nat) (M : Orac) (row : Nat → Nat → PS) (c0 c2 c3 c4 c5 c6 c7 c8 c9 : Int) (s1 s2 : ByteArray) (x y : Int) (k : Nat) (h : q_locP k n row 0 c3 c4 c5 c6 c7 x y) : callF prog gl noD 1 (addM 32 aTurned M) 0 30 [.one (.view n 12 row), .agg [.int .i64 c0, .int .i64 0, .int .i64 c2, .int .i64 c3, .int .i64 c4, .int .i64 c5, .int .i64 c6, .int .i64 c7, .int .i64 c8, .int .i64 c9, .str s1, .str s2], i64 x, i64 y] [] = some (.tup [i64 (x - q_off row 0 3), i64 (y - q_off row 0 4)], []) := by
  obtain ⟨rfl, _, ⟨hX, hY, hW, hH⟩, ⟨hx, hy⟩, _⟩ := h
  rw [loc_raw0, show W ((0 : Int) - 0) = 0 from rfl, W_id (n := 2 * c3) (by omega) (by omega), W_id (n := 2 * c4) (by omega) (by omega), W_id (n := 2 * c3 + c5) (by omega) (by omega), W_id (n := 2 * c4 + c6) (by omega) (by omega), tx0, ty0]
  have t1 : q_small 1000000000000 x = true := small_iff.2 (by omega)
  have t2 : q_small 1000000000000 y = true := small_iff.2 (by omega)
  have t3 : q_small 1000000000000 (2 * c3 + c5) = true := small_iff.2 (by omega)
  have t4 : q_small 1000000000000 (2 * c4 + c6) = true := small_iff.2 (by omega)
  rw [if_pos (by rw [t1, t2, t3, t4]; rfl)]
  unfold q_off
  rw [off_zero, off_zero, Int.sub_zero, Int.sub_zero]
theorem loc_eq (k n : Nat) (g : Nat → Nat → Int) (sx : Nat → Nat → ByteArray) (jx : Nat → Nat → PS) (c : Nat → Int) (s1 s2 : ByteArray) (x y : Int) (h : q_locP (k + 1) n (rwj g sx jx) (c 1) (c 3) (c 4) (c 5) (c 6) (c 7) x y) (h0 : c 1 ≠ 0) : callF prog gl noD 1 (Oe k) 0 30 [.one (.view n 12 (rwj g sx jx)), .agg (cel c s1 s2), i64 x, i64 y] [] = some (.tup [i64 (x - q_off (rwj g sx jx) (c 1) 3), i64 (y - q_off (rwj g sx jx) (c 1) 4)], []) := by
  obtain ⟨hT, hk, ⟨hX, hY, hW, hH⟩, ⟨hx, hy⟩, h5⟩ := h
  obtain ⟨_, hS, hz⟩ := h5.resolve_left h0
  have hz' : ∀ i : Nat, (i : Int) < c 1 → g i 7 = 0 := fun i hi => by rw [← gi_rwj g sx jx i 7 (by omega)]; exact hz i hi
  obtain ⟨hn, hp0, hpn, hg⟩ := hS
  have hi : (((c 1 - 1).toNat : Nat) : Int) = c 1 - 1 := Int.toNat_of_nonneg (by omega)
  have hg' : ∀ i : Nat, (i : Int) < c 1 → g i 0 = i + 1 := fun i hi => by rw [← gi_rwj g sx jx i 0 (by omega)]; exact (hg i hi).1
  have hf : q_find n g (c 1) = ((c 1 - 1).toNat : Nat) := find_at (by omega) (fun q hq => by rw [hg' q (by omega)]; omega) (by rw [hg' _ (by omega)]; omega)
  obtain ⟨e0, e1, e1', e3, e7, e7'⟩ := hg (c 1 - 1).toNat (by omega)
  have u1 : q_off (rwj g sx jx) (c 1) 3 = g (c 1 - 1).toNat 3 + q_off (rwj g sx jx) (g (c 1 - 1).toNat 1) 3 := by
    unfold q_off
    rw [off_up ⟨hn, hp0, hpn, hg⟩ h0, gi_rwj g sx jx _ 3 (by omega), gi_rwj g sx jx _ 1 (by omega)]
  have u2 : q_off (rwj g sx jx) (c 1) 4 = g (c 1 - 1).toNat 4 + q_off (rwj g sx jx) (g (c 1 - 1).toNat 1) 4 := by
    unfold q_off
    rw [off_up ⟨hn, hp0, hpn, hg⟩ h0, gi_rwj g sx jx _ 4 (by omega), gi_rwj g sx jx _ 1 (by omega)]
  have f3 := e3 3 (by omega) (by omega)
  have f4 := e3 4 (by omega) (by omega)
  have f5 := e3 5 (by omega) (by omega)
  have f6 := e3 6 (by omega) (by omega)
  simp only [gi_rwj g sx jx _ 1 (by omega), gi_rwj g sx jx _ 3 (by omega), gi_rwj g sx jx _ 4 (by omega), gi_rwj g sx jx _ 5 (by omega), gi_rwj g sx jx _ 6 (by omega)] at e1 e1' f3 f4 f5 f6
  have hS1 : Std n (fun i j => q_gi (rwj g sx jx i j)) (g (c 1 - 1).toNat 1) := ⟨hn, e1, by omega, fun i h => hg i (by omega)⟩
  have b1 : -20000 ≤ q_off (rwj g sx jx) (g (c 1 - 1).toNat 1) 3 ∧ q_off (rwj g sx jx) (g (c 1 - 1).toNat 1) 3 ≤ 20000 := by have := off_bd (j := 3) (by omega) 10 _ hS1; unfold q_off; omega
  have b2 : -20000 ≤ q_off (rwj g sx jx) (g (c 1 - 1).toNat 1) 4 ∧ q_off (rwj g sx jx) (g (c 1 - 1).toNat 1) 4 ≤ 20000 := by have := off_bd (j := 4) (by omega) 10 _ hS1; unfold q_off; omega
  have hL : q_locP k n (rwj g sx jx) (g (c 1 - 1).toNat 1) (g (c 1 - 1).toNat 3) (g (c 1 - 1).toNat 4) (g (c 1 - 1).toNat 5) (g (c 1 - 1).toNat 6) (g (c 1 - 1).toNat 7) x y := ⟨hz' _ (by omega), by omega, ⟨by omega, by omega, by omega, by omega⟩, ⟨hx, hy⟩, .inr ⟨⟨g, sx, jx, rfl⟩, hS1, fun i h => hz i (by omega)⟩⟩
  rw [loc_raw, if_pos (by simpa using h0), if_pos (by rw [isRw_rwj, Nat.ble_eq_true_of_le (by omega : n ≤ 1000000)]; rfl), find_rwj, hf, chk_true (by simp <;> omega), Int.toNat_natCast, if_pos (q_dec_iff.2 hL), hT, show W ((0 : Int) - 0) = 0 from rfl, W_id (n := 2 * c 3) (by omega) (by omega), W_id (n := 2 * c 4) (by omega) (by omega), W_id (n := 2 * c 3 + c 5) (by omega) (by omega), W_id (n := 2 * c 4 + c 6) (by omega) (by omega), tx0, ty0, u1, u2]
  generalize q_off (rwj g sx jx) (g (c 1 - 1).toNat 1) 3 = o3 at *
  generalize q_off (rwj g sx jx) (g (c 1 - 1).toNat 1) 4 = o4 at *
  rw [W_id (n := x - o3 - g (c 1 - 1).toNat 3) (by omega) (by omega), W_id (n := y - o4 - g (c 1 - 1).toNat 4) (by omega) (by omega)]
  have t1 : q_small 1000000000000 (x - o3 - g (c 1 - 1).toNat 3) = true := small_iff.2 (by omega)
  have t2 : q_small 1000000000000 (y - o4 - g (c 1 - 1).toNat 4) = true := small_iff.2 (by omega)
  have t3 : q_small 1000000000000 (2 * c 3 + c 5) = true := small_iff.2 (by omega)
  have t4 : q_small 1000000000000 (2 * c 4 + c 6) = true := small_iff.2 (by omega)
  rw [if_pos (by rw [t1, t2, t3, t4]; rfl), show x - (g (c 1 - 1).toNat 3 + o3) = x - o3 - g (c 1 - 1).toNat 3 by omega, show y - (g (c 1 - 1).toNat 4 + o4) = y - o4 - g (c 1 - 1).toNat 4 by omega]
end Go.Proofs.YtfemkfodakfcmaaDoor.Sh
