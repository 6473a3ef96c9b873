import Derived.Test.YtfemkfodakfcmaaDoorShC
namespace Go.Proofs.YtfemkfodakfcmaaDoor.Sh
open Go Go.RowKit Go.Proofs.YtfemkfodakfcmaaDoor.Ev Go.Proofs.Tryd
set_option maxRecDepth 100000
theorem find_raw (fl n : Nat) (g : Nat → Nat → Int) (sx : Nat → Nat → ByteArray) (jx : Nat → Nat → PS) (x : Int) : callF prog gl noD fl O5 0 28 [.one (.view n 12 (rwj g sx jx)), i64 x] [] = (if (q_dec (q_isRw (rwj g sx jx)) && n.ble (1000000 : Nat)) = true then (some ((i64 ((q_find n (fun i j ↦ q_gi (rwj g sx jx i j)) x)), []))) else none) := by kernel_rfl
theorem find_rwj (n : Nat) (g : Nat → Nat → Int) (sx : Nat → Nat → ByteArray) (jx : Nat → Nat → PS) (x : Int) : q_find n (fun i j => q_gi (rwj g sx jx i j)) x = q_find n g x := find_congr (fun i _ => gi_rwj g sx jx i 0 (by omega))
theorem isRw_rwj (g : Nat → Nat → Int) (sx : Nat → Nat → ByteArray) (jx : Nat → Nat → PS) : q_dec (q_isRw (rwj g sx jx)) = true := q_dec_iff.2 ⟨g, sx, jx, rfl⟩
theorem find_eq (fl n : Nat) (hn : n ≤ 1000000) (g : Nat → Nat → Int) (sx : Nat → Nat → ByteArray) (jx : Nat → Nat → PS) (x : Int) : callF prog gl noD fl O5 0 28 [.one (.view n 12 (rwj g sx jx)), i64 x] [] = some (i64 (q_find n (fun i j => q_gi (rwj g sx jx i j)) x), []) := by
  rw [find_raw, isRw_rwj, Nat.ble_eq_true_of_le hn]
  rfl
noncomputable def aFind : Nat → List PV → Heap → Option (Bool × PV × Heap)
  | 0, [.one (.view n 12 row), .one (.int .i64 x)], [] => some (q_dec (q_isRw row) && Nat.ble n 1000000, i64 (q_find n (fun i j => q_gi (row i j)) x), [])
  | _, _, _ => none
noncomputable def O6 : Orac := addM 28 aFind O5
theorem sO6 : Sound prog gl O6 := add_ok (D := noD) sO5 sO5 mo (fun nb vs H v H' h => by
  unfold aFind at h
  split at h
  · rename_i n row x
    obtain ⟨⟨h1, h4⟩, h2, h3⟩ : (q_dec (q_isRw row) = true ∧ Nat.ble n 1000000 = true) ∧ i64 (q_find n (fun i j => q_gi (row i j)) x) = v ∧ [] = H' := by simpa using h
    obtain ⟨g, sx, jx, rfl⟩ := q_dec_iff.1 h1
    subst h2 h3
    exact ⟨1, find_eq 1 n (Nat.le_of_ble_eq_true h4) g sx jx x⟩
  · cases h)
theorem ixo_at {p : Nat → Bool} : ∀ (k i j : Nat), i ≤ j → j < i + k → (∀ q, i ≤ q → q < j → p q = false) → p j = true → ixo p k i = some j := by
  intro k
  induction k with
  | zero => intro i j h1 h2; omega
  | succ k ih =>
    intro i j h1 h2 h3 h4
    unfold ixo
    by_cases e : i = j
    · subst e; rw [if_pos h4]
    · rw [if_neg (by rw [h3 i (Nat.le_refl _) (by omega)]; decide)]
      exact ih (i + 1) j (by omega) (by omega) (fun q hq => h3 q (by omega)) h4
theorem find_at {n : Nat} {g : Nat → Nat → Int} {x : Int} {j : Nat} (hj : j < n) (h : ∀ q, q < j → g q 0 ≠ x) (h2 : g j 0 = x) : q_find n g x = j := by
  unfold q_find
  rw [ixo_at n 0 j (by omega) (by omega) (fun q _ hq => by simpa using h q hq) (by simpa using h2)]
  rfl
/-! out -/
def q_out (g : Nat → Nat → Int) : Nat → Int → Int → Int → Int × Int
  | 0, _, x, y => (x, y)
  | k + 1, p, x, y => if p = 0 then (x, y) else q_out g k (g (p - 1).toNat 1) (q_tx (x + g (p - 1).toNat 3) (y + g (p - 1).toNat 4) (2 * g (p - 1).toNat 3 + g (p - 1).toNat 5) (2 * g (p - 1).toNat 4 + g (p - 1).toNat 6) (g (p - 1).toNat 7)) (q_ty (x + g (p - 1).toNat 3) (y + g (p - 1).toNat 4) (2 * g (p - 1).toNat 3 + g (p - 1).toNat 5) (2 * g (p - 1).toNat 4 + g (p - 1).toNat 6) (g (p - 1).toNat 7))
/-- The first p shapes are numbered, and in groups ahead of them. -/
def Std (n : Nat) (g : Nat → Nat → Int) (p : Int) : Prop := n ≤ 10 ∧ 0 ≤ p ∧ p ≤ n ∧ ∀ i : Nat, (i : Int) < p → g i 0 = i + 1 ∧ 0 ≤ g i 1 ∧ g i 1 ≤ i ∧ (∀ j, 3 ≤ j → j ≤ 6 → -2000 ≤ g i j ∧ g i j ≤ 2000) ∧ -4000 ≤ g i 7 ∧ g i 7 ≤ 4000
abbrev pOut : List Bool := [true, false, false]
abbrev hOut (n : Nat) (row : Nat → Nat → PS) (p x y : Int) : En := [(9, none, i64 0), (8, none, i64 0), (0, none, .one (.view n 12 row)), (1, none, i64 p), (2, none, i64 x), (3, none, i64 y)]
theorem out_step (fl m n : Nat) (g : Nat → Nat → Int) (sx : Nat → Nat → ByteArray) (jx : Nat → Nat → PS) (p x y : Int) (K : Exit → En → Heap → Option (PV × Heap)) : rounds (bodyAt prog gl O6 noD f40 4 0 fl pOut) K (m + 1) (hOut n (rwj g sx jx) p x y) [] = (if (p != (0 : Int)) = true then (if (q_dec (q_isRw (rwj g sx jx)) && n.ble (1000000 : Nat)) = true then (chk true (decide ((0 : Int) ≤ q_find n (fun i j ↦ q_gi (rwj g sx jx i j)) p) && decide (q_find n (fun i j ↦ q_gi (rwj g sx jx i j)) p < ↑n)) (if (q_small (1000000000000 : Nat) (W (x + g (q_find n (fun i j ↦ q_gi (rwj g sx jx i j)) p).toNat (3 : Nat))) && (q_small (1000000000000 : Nat) (W (y + g (q_find n (fun i j ↦ q_gi (rwj g sx jx i j)) p).toNat (4 : Nat))) && (q_small (1000000000000 : Nat) (W (W ((2 : Int) * g (q_find n (fun i j ↦ q_gi (rwj g sx jx i j)) p).toNat (3 : Nat)) + g (q_find n (fun i j ↦ q_gi (rwj g sx jx i j)) p).toNat (5 : Nat))) && (q_small (1000000000000 : Nat) (W (W ((2 : Int) * g (q_find n (fun i j ↦ q_gi (rwj g sx jx i j)) p).toNat (4 : Nat)) + g (q_find n (fun i j ↦ q_gi (rwj g sx jx i j)) p).toNat (6 : Nat))) && q_small (900000 : Nat) (g (q_find n (fun i j ↦ q_gi (rwj g sx jx i j)) p).toNat (7 : Nat)))))) = true then (rounds (bodyAt prog gl O6 noD f40 4 0 fl pOut) K m ([((9 : Nat), none, i64 ((0 : Int))), ((8 : Nat), none, i64 ((0 : Int))), ((0 : Nat), none, PV.one (PS.view n (12 : Nat) (rwj g sx jx))), ((1 : Nat), none, i64 ((g (q_find n (fun i j ↦ q_gi (rwj g sx jx i j)) p).toNat (1 : Nat)))), ((2 : Nat), none, i64 ((q_tx (W (x + g (q_find n (fun i j ↦ q_gi (rwj g sx jx i j)) p).toNat (3 : Nat))) (W (y + g (q_find n (fun i j ↦ q_gi (rwj g sx jx i j)) p).toNat (4 : Nat))) (W (W ((2 : Int) * g (q_find n (fun i j ↦ q_gi (rwj g sx jx i j)) p).toNat (3 : Nat)) + g (q_find n (fun i j ↦ q_gi (rwj g sx jx i j)) p).toNat (5 : Nat))) (W (W ((2 : Int) * g (q_find n (fun i j ↦ q_gi (rwj g sx jx i j)) p).toNat (4 : Nat)) + g (q_find n (fun i j ↦ q_gi (rwj g sx jx i j)) p).toNat (6 : Nat))) (g (q_find n (fun i j ↦ q_gi (rwj g sx jx i j)) p).toNat (7 : Nat))))), ((3 : Nat), none, i64 ((q_ty (W (x + g (q_find n (fun i j ↦ q_gi (rwj g sx jx i j)) p).toNat (3 : Nat))) (W (y + g (q_find n (fun i j ↦ q_gi (rwj g sx jx i j)) p).toNat (4 : Nat))) (W (W ((2 : Int) * g (q_find n (fun i j ↦ q_gi (rwj g sx jx i j)) p).toNat (3 : Nat)) + g (q_find n (fun i j ↦ q_gi (rwj g sx jx i j)) p).toNat (5 : Nat))) (W (W ((2 : Int) * g (q_find n (fun i j ↦ q_gi (rwj g sx jx i j)) p).toNat (4 : Nat)) + g (q_find n (fun i j ↦ q_gi (rwj g sx jx i j)) p).toNat (6 : Nat))) (g (q_find n (fun i j ↦ q_gi (rwj g sx jx i j)) p).toNat (7 : Nat)))))]) ([])) else none)) else none) else (K (Exit.exit (0 : Nat)) ([((9 : Nat), none, i64 ((0 : Int))), ((8 : Nat), none, i64 ((0 : Int))), ((0 : Nat), none, PV.one (PS.view n (12 : Nat) (rwj g sx jx))), ((1 : Nat), none, i64 (p)), ((2 : Nat), none, i64 (x)), ((3 : Nat), none, i64 (y))]) ([]))) := by kernel_rfl
theorem out_step0 (fl m n : Nat) (row : Nat → Nat → PS) (x y : Int) (K : Exit → En → Heap → Option (PV × Heap)) : rounds (bodyAt prog gl O6 noD f40 4 0 fl pOut) K (m + 1) (hOut n row 0 x y) [] = (K (Exit.exit (0 : Nat)) ([((9 : Nat), none, i64 ((0 : Int))), ((8 : Nat), none, i64 ((0 : Int))), ((0 : Nat), none, PV.one (PS.view n (12 : Nat) row)), ((1 : Nat), none, i64 ((0 : Int))), ((2 : Nat), none, i64 (x)), ((3 : Nat), none, i64 (y))]) ([])) := by kernel_rfl
theorem out_pre (fl n : Nat) (row : Nat → Nat → PS) (p x y : Int) : callF prog gl noD fl O6 0 40 [.one (.view n 12 row), i64 p, i64 x, i64 y] [] = (rounds (bodyAt prog gl O6 noD f40 4 0 fl pOut) (kAt prog gl O6 noD f40 4 0 fl pOut) fl ([((9 : Nat), none, i64 ((0 : Int))), ((8 : Nat), none, i64 ((0 : Int))), ((0 : Nat), none, PV.one (PS.view n (12 : Nat) row)), ((1 : Nat), none, i64 (p)), ((2 : Nat), none, i64 (x)), ((3 : Nat), none, i64 (y))]) ([])) := by kernel_rfl
theorem round17 (z : Int) : q_round z 131072 = (2 * z + 131072) / 262144 := rfl
theorem tx_bd {x y cx cy t A : Int} (hA : 0 ≤ A) (hx : -A ≤ x ∧ x ≤ A) (hy : -A ≤ y ∧ y ≤ A) (hcx : -6000 ≤ cx ∧ cx ≤ 6000) (hcy : -6000 ≤ cy ∧ cy ≤ 6000) : (-(4 * A + 50000) ≤ q_tx x y cx cy t ∧ q_tx x y cx cy t ≤ 4 * A + 50000) ∧ (-(4 * A + 50000) ≤ q_ty x y cx cy t ∧ q_ty x y cx cy t ≤ 4 * A + 50000) := by
  unfold q_tx q_ty
  rw [round17, round17]
  have s1 := sn_bound t
  have s2 := sn_bound (t + 900)
  have dx : -(2 * A + 6000) ≤ 2 * x - cx ∧ 2 * x - cx ≤ 2 * A + 6000 := by omega
  have dy : -(2 * A + 6000) ≤ 2 * y - cy ∧ 2 * y - cy ≤ 2 * A + 6000 := by omega
  have b1 := mul_bd (by omega) (by omega) dx s1
  have b2 := mul_bd (by omega) (by omega) dx s2
  have b3 := mul_bd (by omega) (by omega) dy s1
  have b4 := mul_bd (by omega) (by omega) dy s2
  generalize (2 * x - cx) * q_sn t = p1 at *
  generalize (2 * x - cx) * q_sn (t + 900) = p2 at *
  generalize (2 * y - cy) * q_sn t = p3 at *
  generalize (2 * y - cy) * q_sn (t + 900) = p4 at *
  omega
theorem out_loop (fl n : Nat) (g : Nat → Nat → Int) (sx : Nat → Nat → ByteArray) (jx : Nat → Nat → PS) : ∀ (k m : Nat) (p x y : Int), k ≤ 10 → Std n g p → p ≤ k → k < m → (-(120000 * 4 ^ (10 - k) - 20000) ≤ x ∧ x ≤ 120000 * 4 ^ (10 - k) - 20000) → (-(120000 * 4 ^ (10 - k) - 20000) ≤ y ∧ y ≤ 120000 * 4 ^ (10 - k) - 20000) →
    rounds (bodyAt prog gl O6 noD f40 4 0 fl pOut) (kAt prog gl O6 noD f40 4 0 fl pOut) m (hOut n (rwj g sx jx) p x y) [] = some (.tup [i64 (q_out g k p x y).1, i64 (q_out g k p x y).2], []) := by
  intro k
  induction k with
  | zero =>
    intro m p x y _ hS hp hm _ _
    obtain ⟨m, rfl⟩ : ∃ m', m = m' + 1 := ⟨m - 1, by omega⟩
    obtain rfl : p = 0 := by have := hS.2.1; omega
    rw [out_step0]
    kernel_rfl
  | succ k ih =>
    intro m p x y hk hS hp hm hx hy
    obtain ⟨m, rfl⟩ : ∃ m', m = m' + 1 := ⟨m - 1, by omega⟩
    by_cases h0 : p = 0
    · subst h0
      rw [out_step0]
      kernel_rfl
    · obtain ⟨hn, hp0, hpn, hg⟩ := hS
      rw [out_step, if_pos (by simpa using h0), if_pos (by rw [isRw_rwj, Nat.ble_eq_true_of_le (by omega : n ≤ 1000000)]; rfl), find_rwj]
      have hi : (((p - 1).toNat : Nat) : Int) = p - 1 := Int.toNat_of_nonneg (by omega)
      have hf : q_find n g p = ((p - 1).toNat : Nat) := find_at (by omega) (fun q hq => by rw [(hg q (by omega)).1]; omega) (by rw [(hg _ (by omega)).1]; omega)
      rw [hf, chk_true (by simp; omega), Int.toNat_natCast]
      obtain ⟨g0, g1, g1', g3, g7, g7'⟩ := hg (p - 1).toNat (by omega)
      have h3 := g3 3 (by omega) (by omega)
      have h4 := g3 4 (by omega) (by omega)
      have h5 := g3 5 (by omega) (by omega)
      have h6 := g3 6 (by omega) (by omega)
      obtain ⟨B, hB0, hB, hB1, hB2⟩ : ∃ B : Int, (4 : Int) ^ (10 - (k + 1)) = B ∧ (4 : Int) ^ (10 - k) = 4 * B ∧ 1 ≤ B ∧ B ≤ 1048576 := by
        rcases (by omega : k = 0 ∨ k = 1 ∨ k = 2 ∨ k = 3 ∨ k = 4 ∨ k = 5 ∨ k = 6 ∨ k = 7 ∨ k = 8 ∨ k = 9) with rfl | rfl | rfl | rfl | rfl | rfl | rfl | rfl | rfl | rfl <;> exact ⟨_, rfl, by decide, by decide, by decide⟩
      rw [hB0] at hx hy
      rw [hB] at ih
      rw [W_id (n := x + g (p - 1).toNat 3) (by omega) (by omega), W_id (n := y + g (p - 1).toNat 4) (by omega) (by omega), W_id (n := 2 * g (p - 1).toNat 3) (by omega) (by omega), W_id (n := 2 * g (p - 1).toNat 4) (by omega) (by omega), W_id (n := 2 * g (p - 1).toNat 3 + g (p - 1).toNat 5) (by omega) (by omega), W_id (n := 2 * g (p - 1).toNat 4 + g (p - 1).toNat 6) (by omega) (by omega)]
      have t1 : q_small 1000000000000 (x + g (p - 1).toNat 3) = true := small_iff.2 (by omega)
      have t2 : q_small 1000000000000 (y + g (p - 1).toNat 4) = true := small_iff.2 (by omega)
      have t3 : q_small 1000000000000 (2 * g (p - 1).toNat 3 + g (p - 1).toNat 5) = true := small_iff.2 (by omega)
      have t4 : q_small 1000000000000 (2 * g (p - 1).toNat 4 + g (p - 1).toNat 6) = true := small_iff.2 (by omega)
      have t5 : q_small 900000 (g (p - 1).toNat 7) = true := small_iff.2 (by omega)
      rw [if_pos (by rw [t1, t2, t3, t4, t5]; rfl)]
      have bd := tx_bd (x := x + g (p - 1).toNat 3) (y := y + g (p - 1).toNat 4) (cx := 2 * g (p - 1).toNat 3 + g (p - 1).toNat 5) (cy := 2 * g (p - 1).toNat 4 + g (p - 1).toNat 6) (t := g (p - 1).toNat 7) (A := 120000 * B - 18000) (by omega) (by omega) (by omega) (by omega) (by omega)
      have := ih m (g (p - 1).toNat 1) (q_tx (x + g (p - 1).toNat 3) (y + g (p - 1).toNat 4) (2 * g (p - 1).toNat 3 + g (p - 1).toNat 5) (2 * g (p - 1).toNat 4 + g (p - 1).toNat 6) (g (p - 1).toNat 7)) (q_ty (x + g (p - 1).toNat 3) (y + g (p - 1).toNat 4) (2 * g (p - 1).toNat 3 + g (p - 1).toNat 5) (2 * g (p - 1).toNat 4 + g (p - 1).toNat 6) (g (p - 1).toNat 7)) (by omega) ⟨hn, g1, by omega, fun i hi => hg i (by omega)⟩ (by omega) (by omega) (by omega) (by omega)
      rw [show q_out g (k + 1) p x y = q_out g k (g (p - 1).toNat 1) (q_tx (x + g (p - 1).toNat 3) (y + g (p - 1).toNat 4) (2 * g (p - 1).toNat 3 + g (p - 1).toNat 5) (2 * g (p - 1).toNat 4 + g (p - 1).toNat 6) (g (p - 1).toNat 7)) (q_ty (x + g (p - 1).toNat 3) (y + g (p - 1).toNat 4) (2 * g (p - 1).toNat 3 + g (p - 1).toNat 5) (2 * g (p - 1).toNat 4 + g (p - 1).toNat 6) (g (p - 1).toNat 7)) from if_neg h0]
      exact this
theorem isRw_gi {row : Nat → Nat → PS} (h : q_isRw row) : ∃ sx jx, row = rwj (fun i j => q_gi (row i j)) sx jx := by
  obtain ⟨g, sx, jx, rfl⟩ := h
  refine ⟨sx, jx, ?_⟩
  funext i j
  show rwj g sx jx i j = if j < 10 then .int .i64 (q_gi (rwj g sx jx i j)) else if j < 12 then .str (sx i j) else jx i j
  by_cases hj : j < 10
  · rw [gi_rwj g sx jx i j hj, if_pos hj]; unfold rwj; rw [if_pos hj]
  · rw [if_neg hj]; unfold rwj; rw [if_neg hj]
/-- What out is asked for. -/
def q_outP (n : Nat) (row : Nat → Nat → PS) (p x y : Int) : Prop := p = 0 ∨ (q_isRw row ∧ Std n (fun i j => q_gi (row i j)) p ∧ (-100000 ≤ x ∧ x ≤ 100000) ∧ -100000 ≤ y ∧ y ≤ 100000)
def q_ox (row : Nat → Nat → PS) (p x y : Int) : Int := (q_out (fun i j => q_gi (row i j)) 10 p x y).1
def q_oy (row : Nat → Nat → PS) (p x y : Int) : Int := (q_out (fun i j => q_gi (row i j)) 10 p x y).2
theorem out0 (g : Nat → Nat → Int) (k : Nat) (x y : Int) : q_out g k 0 x y = (x, y) := by cases k <;> rfl
theorem out_eq0 (n : Nat) (row : Nat → Nat → PS) (x y : Int) : callF prog gl noD 1 O6 0 40 [.one (.view n 12 row), i64 0, i64 x, i64 y] [] = some (.tup [i64 (q_ox row 0 x y), i64 (q_oy row 0 x y)], []) := by
  refine (out_pre 1 n row 0 x y).trans ?_
  unfold q_ox q_oy
  rw [out0]
  refine (out_step0 1 0 n row x y _).trans ?_
  kernel_rfl
theorem out_eq (n : Nat) (row : Nat → Nat → PS) (p x y : Int) (h : q_isRw row ∧ Std n (fun i j => q_gi (row i j)) p ∧ (-100000 ≤ x ∧ x ≤ 100000) ∧ -100000 ≤ y ∧ y ≤ 100000) : callF prog gl noD 11 O6 0 40 [.one (.view n 12 row), i64 p, i64 x, i64 y] [] = some (.tup [i64 (q_ox row p x y), i64 (q_oy row p x y)], []) := by
  refine (out_pre 11 n row p x y).trans ?_
  obtain ⟨sx, jx, hrow⟩ := isRw_gi h.1
  unfold q_ox q_oy
  have h' := h.2
  generalize (fun i j => q_gi (row i j)) = g at *
  subst hrow
  have hS := h'.1
  have hn := hS.1
  have hp := hS.2.2.1
  exact out_loop 11 n g sx jx 10 11 p x y (by omega) h'.1 (by omega) (by omega) (by have := h'.2.1; simpa using this) (by have := h'.2.2; simpa using this)
noncomputable def aOut : Nat → List PV → Heap → Option (Bool × PV × Heap)
  | 0, [.one (.view n 12 row), .one (.int .i64 p), .one (.int .i64 x), .one (.int .i64 y)], [] => some (q_dec (q_outP n row p x y), .tup [i64 (q_ox row p x y), i64 (q_oy row p x y)], [])
  | _, _, _ => none
noncomputable def O7 : Orac := addM 40 aOut O6
theorem sO7 : Sound prog gl O7 := add_ok (D := noD) sO6 sO6 mo (fun nb vs H v H' h => by
  unfold aOut at h
  split at h
  · rename_i n row p x y
    obtain ⟨h1, h2, h3⟩ : q_dec (q_outP n row p x y) = true ∧ .tup [i64 (q_ox row p x y), i64 (q_oy row p x y)] = v ∧ [] = H' := by simpa using h
    subst h2 h3
    rcases q_dec_iff.1 h1 with rfl | h4
    · exact ⟨1, out_eq0 n row x y⟩
    · exact ⟨11, out_eq n row p x y h4⟩
  · cases h)
/-! corners -/
theorem cor_raw (n : Nat) (row : Nat → Nat → PS) (c0 c1 c2 c3 c4 c5 c6 c7 c8 c9 : Int) (s1 s2 : ByteArray) : callF prog gl noD 6 O7 0 29 [.one (.view n 12 row), .agg [.int .i64 c0, .int .i64 c1, .int .i64 c2, .int .i64 c3, .int .i64 c4, .int .i64 c5, .int .i64 c6, .int .i64 c7, .int .i64 c8, .int .i64 c9, .str s1, .str s2]] [] = (if (q_small (1000000000000 : Nat) c3 && (q_small (1000000000000 : Nat) c4 && (q_small (1000000000000 : Nat) (W (W ((2 : Int) * c3) + c5)) && (q_small (1000000000000 : Nat) (W (W ((2 : Int) * c4) + c6)) && q_small (900000 : Nat) c7)))) = true then (if (q_dec (q_outP n row c1 (q_tx c3 c4 (W (W ((2 : Int) * c3) + c5)) (W (W ((2 : Int) * c4) + c6)) c7) (q_ty c3 c4 (W (W ((2 : Int) * c3) + c5)) (W (W ((2 : Int) * c4) + c6)) c7))) = true then (if (q_small (1000000000000 : Nat) (W (c3 + c5)) && (q_small (1000000000000 : Nat) c4 && (q_small (1000000000000 : Nat) (W (W ((2 : Int) * c3) + c5)) && (q_small (1000000000000 : Nat) (W (W ((2 : Int) * c4) + c6)) && q_small (900000 : Nat) c7)))) = true then (if (q_dec (q_outP n row c1 (q_tx (W (c3 + c5)) c4 (W (W ((2 : Int) * c3) + c5)) (W (W ((2 : Int) * c4) + c6)) c7) (q_ty (W (c3 + c5)) c4 (W (W ((2 : Int) * c3) + c5)) (W (W ((2 : Int) * c4) + c6)) c7))) = true then (if (q_small (1000000000000 : Nat) (W (c3 + c5)) && (q_small (1000000000000 : Nat) (W (c4 + c6)) && (q_small (1000000000000 : Nat) (W (W ((2 : Int) * c3) + c5)) && (q_small (1000000000000 : Nat) (W (W ((2 : Int) * c4) + c6)) && q_small (900000 : Nat) c7)))) = true then (if (q_dec (q_outP n row c1 (q_tx (W (c3 + c5)) (W (c4 + c6)) (W (W ((2 : Int) * c3) + c5)) (W (W ((2 : Int) * c4) + c6)) c7) (q_ty (W (c3 + c5)) (W (c4 + c6)) (W (W ((2 : Int) * c3) + c5)) (W (W ((2 : Int) * c4) + c6)) c7))) = true then (if (q_small (1000000000000 : Nat) c3 && (q_small (1000000000000 : Nat) (W (c4 + c6)) && (q_small (1000000000000 : Nat) (W (W ((2 : Int) * c3) + c5)) && (q_small (1000000000000 : Nat) (W (W ((2 : Int) * c4) + c6)) && q_small (900000 : Nat) c7)))) = true then (if (q_dec (q_outP n row c1 (q_tx c3 (W (c4 + c6)) (W (W ((2 : Int) * c3) + c5)) (W (W ((2 : Int) * c4) + c6)) c7) (q_ty c3 (W (c4 + c6)) (W (W ((2 : Int) * c3) + c5)) (W (W ((2 : Int) * c4) + c6)) c7))) = true then (some ((PV.agg [PS.int IntKind.i64 (q_ox row c1 (q_tx c3 c4 (W (W ((2 : Int) * c3) + c5)) (W (W ((2 : Int) * c4) + c6)) c7) (q_ty c3 c4 (W (W ((2 : Int) * c3) + c5)) (W (W ((2 : Int) * c4) + c6)) c7)), PS.int IntKind.i64 (q_oy row c1 (q_tx c3 c4 (W (W ((2 : Int) * c3) + c5)) (W (W ((2 : Int) * c4) + c6)) c7) (q_ty c3 c4 (W (W ((2 : Int) * c3) + c5)) (W (W ((2 : Int) * c4) + c6)) c7)), PS.int IntKind.i64 (q_ox row c1 (q_tx (W (c3 + c5)) c4 (W (W ((2 : Int) * c3) + c5)) (W (W ((2 : Int) * c4) + c6)) c7) (q_ty (W (c3 + c5)) c4 (W (W ((2 : Int) * c3) + c5)) (W (W ((2 : Int) * c4) + c6)) c7)), PS.int IntKind.i64 (q_oy row c1 (q_tx (W (c3 + c5)) c4 (W (W ((2 : Int) * c3) + c5)) (W (W ((2 : Int) * c4) + c6)) c7) (q_ty (W (c3 + c5)) c4 (W (W ((2 : Int) * c3) + c5)) (W (W ((2 : Int) * c4) + c6)) c7)), PS.int IntKind.i64 (q_ox row c1 (q_tx (W (c3 + c5)) (W (c4 + c6)) (W (W ((2 : Int) * c3) + c5)) (W (W ((2 : Int) * c4) + c6)) c7) (q_ty (W (c3 + c5)) (W (c4 + c6)) (W (W ((2 : Int) * c3) + c5)) (W (W ((2 : Int) * c4) + c6)) c7)), PS.int IntKind.i64 (q_oy row c1 (q_tx (W (c3 + c5)) (W (c4 + c6)) (W (W ((2 : Int) * c3) + c5)) (W (W ((2 : Int) * c4) + c6)) c7) (q_ty (W (c3 + c5)) (W (c4 + c6)) (W (W ((2 : Int) * c3) + c5)) (W (W ((2 : Int) * c4) + c6)) c7)), PS.int IntKind.i64 (q_ox row c1 (q_tx c3 (W (c4 + c6)) (W (W ((2 : Int) * c3) + c5)) (W (W ((2 : Int) * c4) + c6)) c7) (q_ty c3 (W (c4 + c6)) (W (W ((2 : Int) * c3) + c5)) (W (W ((2 : Int) * c4) + c6)) c7)), PS.int IntKind.i64 (q_oy row c1 (q_tx c3 (W (c4 + c6)) (W (W ((2 : Int) * c3) + c5)) (W (W ((2 : Int) * c4) + c6)) c7) (q_ty c3 (W (c4 + c6)) (W (W ((2 : Int) * c3) + c5)) (W (W ((2 : Int) * c4) + c6)) c7))], []))) else none) else none) else none) else none) else none) else none) else none) else none) := by kernel_rfl
end Go.Proofs.YtfemkfodakfcmaaDoor.Sh
