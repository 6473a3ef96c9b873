import Derived.Test.YtgipgiejdbhpkaaDoorSxL
namespace Go.Proofs.YtgipgiejdbhpkaaDoor.Sh
open Go Go.RowKit Go.Proofs.YtgipgiejdbhpkaaDoor.Ev Go.Proofs.Tryd
set_option maxRecDepth 1000000
set_option linter.unusedVariables false
/-! out: a point of a group in the drawing -/
abbrev pOut : List Bool := [true, false, false]
abbrev hOut (n : Nat) (row : Nat → Nat → PS) (p x y : Int) : En := [(9, none, i64 0), (8, none, i64 0), (0, none, .one (.view n 12 row)), (1, none, i64 p), (2, none, i64 x), (3, none, i64 y)]
noncomputable abbrev yOut (fl : Nat) : En → Heap → (Exit → En → Heap → Option (PV × Heap)) → Option (PV × Heap) := bodyAt prog gl O21 noD f32 4 0 fl pOut
noncomputable abbrev kOut (fl : Nat) := kAt prog gl O21 noD f32 4 0 fl pOut
theorem out_st (fl mm n : Nat) (g : Nat → Nat → Int) (sx : Nat → Nat → ByteArray) (jx : Nat → Nat → PS) (p x y : Int) : rounds (yOut fl) (kOut fl) (mm + 1) (hOut n (rwj g sx jx) p x y) [] = (if (p != (0 : Int)) = true then (if (q_dec (q_isRw (rwj g sx jx) ∧ n ≤ (100000 : Nat))) = true then (chk true (decide ((0 : Int) ≤ q_fd n (q_nu n (rwj g sx jx)) p) && decide (q_fd n (q_nu n (rwj g sx jx)) p < (↑n : Int))) (if (q_small (1000000000000 : Nat) (W (x + g (q_fd n (q_nu n (rwj g sx jx)) p).toNat (3 : Nat))) && (q_small (1000000000000 : Nat) (W (y + g (q_fd n (q_nu n (rwj g sx jx)) p).toNat (4 : Nat))) && (q_small (1000000000000 : Nat) (W (W ((2 : Int) * g (q_fd n (q_nu n (rwj g sx jx)) p).toNat (3 : Nat)) + g (q_fd n (q_nu n (rwj g sx jx)) p).toNat (5 : Nat))) && (q_small (1000000000000 : Nat) (W (W ((2 : Int) * g (q_fd n (q_nu n (rwj g sx jx)) p).toNat (4 : Nat)) + g (q_fd n (q_nu n (rwj g sx jx)) p).toNat (6 : Nat))) && q_small (900000 : Nat) (g (q_fd n (q_nu n (rwj g sx jx)) p).toNat (7 : Nat)))))) = true then (rounds (yOut fl) (kOut fl) mm ([((9 : Nat), none, i64 ((0 : Int))), ((8 : Nat), none, i64 ((0 : Int))), ((0 : Nat), none, PV.one (PS.view n (12 : Nat) (rwj g sx jx))), ((1 : Nat), none, i64 ((g (q_fd n (q_nu n (rwj g sx jx)) p).toNat (1 : Nat)))), ((2 : Nat), none, i64 ((q_tx (W (x + g (q_fd n (q_nu n (rwj g sx jx)) p).toNat (3 : Nat))) (W (y + g (q_fd n (q_nu n (rwj g sx jx)) p).toNat (4 : Nat))) (W (W ((2 : Int) * g (q_fd n (q_nu n (rwj g sx jx)) p).toNat (3 : Nat)) + g (q_fd n (q_nu n (rwj g sx jx)) p).toNat (5 : Nat))) (W (W ((2 : Int) * g (q_fd n (q_nu n (rwj g sx jx)) p).toNat (4 : Nat)) + g (q_fd n (q_nu n (rwj g sx jx)) p).toNat (6 : Nat))) (g (q_fd n (q_nu n (rwj g sx jx)) p).toNat (7 : Nat))))), ((3 : Nat), none, i64 ((q_ty (W (x + g (q_fd n (q_nu n (rwj g sx jx)) p).toNat (3 : Nat))) (W (y + g (q_fd n (q_nu n (rwj g sx jx)) p).toNat (4 : Nat))) (W (W ((2 : Int) * g (q_fd n (q_nu n (rwj g sx jx)) p).toNat (3 : Nat)) + g (q_fd n (q_nu n (rwj g sx jx)) p).toNat (5 : Nat))) (W (W ((2 : Int) * g (q_fd n (q_nu n (rwj g sx jx)) p).toNat (4 : Nat)) + g (q_fd n (q_nu n (rwj g sx jx)) p).toNat (6 : Nat))) (g (q_fd n (q_nu n (rwj g sx jx)) p).toNat (7 : Nat)))))]) ([])) else none)) else none) else (some ((PV.tup [i64 (x), i64 (y)], [])))) := by kernel_rfl
theorem out_st0 (fl mm n : Nat) (row : Nat → Nat → PS) (x y : Int) : rounds (yOut fl) (kOut fl) (mm + 1) (hOut n row 0 x y) [] = (some ((PV.tup [i64 (x), i64 (y)], []))) := by kernel_rfl
theorem out_pre (fl n : Nat) (row : Nat → Nat → PS) (p x y : Int) : callF prog gl noD fl O21 0 32 [.one (.view n 12 row), i64 p, i64 x, i64 y] [] = (rounds (yOut fl) (kOut fl) fl ([((9 : Nat), none, i64 ((0 : Int))), ((8 : Nat), none, i64 ((0 : Int))), ((0 : Nat), none, PV.one (PS.view n (12 : Nat) row)), ((1 : Nat), none, i64 (p)), ((2 : Nat), none, i64 (x)), ((3 : Nat), none, i64 (y))]) ([])) := by kernel_rfl
def q_ou (n : Nat) (g : Nat → Nat → Int) : Nat → Int → Int → Int → Int × Int
  | 0, _, x, y => (x, y)
  | f + 1, p, x, y => if p = 0 then (x, y) else
    q_ou n g f (g (q_fd n g p).toNat 1)
      (q_tx (x + g (q_fd n g p).toNat 3) (y + g (q_fd n g p).toNat 4) (2 * g (q_fd n g p).toNat 3 + g (q_fd n g p).toNat 5) (2 * g (q_fd n g p).toNat 4 + g (q_fd n g p).toNat 6) (g (q_fd n g p).toNat 7))
      (q_ty (x + g (q_fd n g p).toNat 3) (y + g (q_fd n g p).toNat 4) (2 * g (q_fd n g p).toNat 3 + g (q_fd n g p).toNat 5) (2 * g (q_fd n g p).toNat 4 + g (q_fd n g p).toNat 6) (g (q_fd n g p).toNat 7))
/-- All coordinates are small. -/
def Cd (n : Nat) (g : Nat → Nat → Int) : Prop := ∀ i, i < n → (-20000 ≤ g i 3 ∧ g i 3 ≤ 20000) ∧ (-20000 ≤ g i 4 ∧ g i 4 ≤ 20000) ∧ (-20000 ≤ g i 5 ∧ g i 5 ≤ 20000) ∧ (-20000 ≤ g i 6 ∧ g i 6 ≤ 20000) ∧ -4000 ≤ g i 7 ∧ g i 7 ≤ 4000
theorem sq_b2 (t : Int) : 0 ≤ q_sq t ∧ q_sq t ≤ 65536 := by
  unfold q_sq
  have h1 := qt_bound (t / 10).toNat
  have h2 := qt_bound (t / 10 + 1).toNat
  split
  · omega
  · have h3 := Int.emod_nonneg t (b := 10) (by omega)
    have h4 := Int.emod_lt_of_pos t (b := 10) (by omega)
    generalize q_qt (t / 10).toNat = x at *
    generalize q_qt (t / 10 + 1).toNat = y at *
    generalize t % 10 = r at *
    have : r = 0 ∨ r = 1 ∨ r = 2 ∨ r = 3 ∨ r = 4 ∨ r = 5 ∨ r = 6 ∨ r = 7 ∨ r = 8 ∨ r = 9 := by omega
    rcases this with rfl | rfl | rfl | rfl | rfl | rfl | rfl | rfl | rfl | rfl <;> omega
theorem sn_b2 (t : Int) : -65536 ≤ q_sn t ∧ q_sn t ≤ 65536 := by
  unfold q_sn
  have h1 := sq_b2 (3600 - t % 3600)
  have h2 := sq_b2 (t % 3600 - 1800)
  have h3 := sq_b2 (1800 - t % 3600)
  have h4 := sq_b2 (t % 3600)
  split
  · omega
  · split
    · omega
    · split <;> omega
theorem tx_bd {x y cx cy t A : Int} (hA : 0 ≤ A) (hx : -A ≤ x ∧ x ≤ A) (hy : -A ≤ y ∧ y ≤ A) (hcx : -60000 ≤ cx ∧ cx ≤ 60000) (hcy : -60000 ≤ cy ∧ cy ≤ 60000) : (-(2 * A + 90001) ≤ q_tx x y cx cy t ∧ q_tx x y cx cy t ≤ 2 * A + 90001) ∧ (-(2 * A + 90001) ≤ q_ty x y cx cy t ∧ q_ty x y cx cy t ≤ 2 * A + 90001) := by
  unfold q_tx q_ty
  have r17 : ∀ z, q_round z 131072 = (2 * z + 131072) / 262144 := fun _ => rfl
  rw [r17, r17]
  have s1 := sn_b2 t
  have s2 := sn_b2 (t + 900)
  have dx : -(2 * A + 60000) ≤ 2 * x - cx ∧ 2 * x - cx ≤ 2 * A + 60000 := by omega
  have dy : -(2 * A + 60000) ≤ 2 * y - cy ∧ 2 * y - cy ≤ 2 * A + 60000 := by omega
  have b1 := mul_bd (by omega) (by omega) dx s1
  have b2 := mul_bd (by omega) (by omega) dx s2
  have b3 := mul_bd (by omega) (by omega) dy s1
  have b4 := mul_bd (by omega) (by omega) dy s2
  generalize (2 * x - cx) * q_sn t = p1 at *
  generalize (2 * x - cx) * q_sn (t + 900) = p2 at *
  generalize (2 * y - cy) * q_sn t = p3 at *
  generalize (2 * y - cy) * q_sn (t + 900) = p4 at *
  omega
theorem out_loop (fl n : Nat) (hn : n ≤ 100000) (g : Nat → Nat → Int) (sx : Nat → Nat → ByteArray) (jx : Nat → Nat → PS) (hC : Cd n g) : ∀ (f m : Nat) (p x y d : Int), f ≤ 20 → q_pe n g f p d = 0 → f ≤ m → (-(330001 * 2 ^ (20 - f) - 130001) ≤ x ∧ x ≤ 330001 * 2 ^ (20 - f) - 130001) → (-(330001 * 2 ^ (20 - f) - 130001) ≤ y ∧ y ≤ 330001 * 2 ^ (20 - f) - 130001) →
    rounds (yOut fl) (kOut fl) m (hOut n (rwj g sx jx) p x y) [] = some (.tup [i64 (q_ou n g f p x y).1, i64 (q_ou n g f p x y).2], []) := by
  intro f
  induction f with
  | zero => intro m p x y d _ h; exact absurd (show (22 : Int) = 0 from h) (by decide)
  | succ k ih =>
    intro m p x y d hk hp hm hx hy
    obtain ⟨m, rfl⟩ : ∃ m', m = m' + 1 := ⟨m - 1, by omega⟩
    unfold q_ou
    by_cases h0 : p = 0
    · subst h0
      rw [out_st0, if_pos rfl]
    · unfold q_pe at hp
      rw [if_neg h0] at hp
      split at hp
      · omega
      · split at hp
        · omega
        · rename_i hf0
          split at hp
          · omega
          · have hr := fd_rng n g p
            have e : q_fd n (q_nu n (rwj g sx jx)) p = q_fd n g p := by rw [nu_rwj]; exact fd_cg (fun k hk => cutG_in hk (by omega))
            rw [out_st, e, if_neg h0, if_pos (by simpa using h0), if_pos (q_dec_iff.2 ⟨⟨g, sx, jx, rfl⟩, hn⟩), chk_true (by simp <;> omega)]
            have hq : (q_fd n g p).toNat < n := by omega
            generalize (q_fd n g p).toNat = q at *
            obtain ⟨h3, h4, h5, h6, h7⟩ := hC q hq
            obtain ⟨B, hB0, hB, hB1, hB2⟩ : ∃ B : Int, (2 : Int) ^ (20 - (k + 1)) = B ∧ (2 : Int) ^ (20 - k) = 2 * B ∧ 1 ≤ B ∧ B ≤ 1048576 := by
              rcases (by omega : k = 0 ∨ k = 1 ∨ k = 2 ∨ k = 3 ∨ k = 4 ∨ k = 5 ∨ k = 6 ∨ k = 7 ∨ k = 8 ∨ k = 9 ∨ k = 10 ∨ k = 11 ∨ k = 12 ∨ k = 13 ∨ k = 14 ∨ k = 15 ∨ k = 16 ∨ k = 17 ∨ k = 18 ∨ k = 19) with rfl | rfl | rfl | rfl | rfl | rfl | rfl | rfl | rfl | rfl | rfl | rfl | rfl | rfl | rfl | rfl | rfl | rfl | rfl | rfl <;> exact ⟨_, rfl, by decide, by decide, by decide⟩
            rw [hB0] at hx hy
            rw [hB] at ih
            rw [W_id (n := x + g q 3) (by omega) (by omega), W_id (n := y + g q 4) (by omega) (by omega), W_id (n := 2 * g q 3) (by omega) (by omega), W_id (n := 2 * g q 4) (by omega) (by omega), W_id (n := 2 * g q 3 + g q 5) (by omega) (by omega), W_id (n := 2 * g q 4 + g q 6) (by omega) (by omega)]
            have t1 : q_small 1000000000000 (x + g q 3) = true := small_iff.2 (by omega)
            have t2 : q_small 1000000000000 (y + g q 4) = true := small_iff.2 (by omega)
            have t3 : q_small 1000000000000 (2 * g q 3 + g q 5) = true := small_iff.2 (by omega)
            have t4 : q_small 1000000000000 (2 * g q 4 + g q 6) = true := small_iff.2 (by omega)
            have t5 : q_small 900000 (g q 7) = true := small_iff.2 (by omega)
            rw [if_pos (by rw [t1, t2, t3, t4, t5]; rfl)]
            have bd := tx_bd (x := x + g q 3) (y := y + g q 4) (cx := 2 * g q 3 + g q 5) (cy := 2 * g q 4 + g q 6) (t := g q 7) (A := 330001 * B - 110001) (by omega) (by omega) (by omega) (by omega) (by omega)
            exact ih m (g q 1) _ _ (d + 1) (by omega) hp (by omega) (by omega) (by omega)
/-- What out is asked for. -/
def q_ouP (n : Nat) (g : Nat → Nat → Int) (p x y : Int) : Prop := Cd n g ∧ q_pe n g 20 p 1 = 0 ∧ (-200000 ≤ x ∧ x ≤ 200000) ∧ -200000 ≤ y ∧ y ≤ 200000
theorem ou_cg {n : Nat} {g g' : Nat → Nat → Int} (h : ∀ k j, k < n → j < 10 → g k j = g' k j) : ∀ (f : Nat) (p x y d : Int), q_pe n g f p d = 0 → q_ou n g f p x y = q_ou n g' f p x y := by
  intro f
  induction f with
  | zero => intro p x y d h; exact absurd (show (22 : Int) = 0 from h) (by decide)
  | succ f ih =>
    intro p x y d hp
    have e : q_fd n g p = q_fd n g' p := fd_cg (fun k hk => h k 0 hk (by omega))
    unfold q_ou
    unfold q_pe at hp
    by_cases h0 : p = 0
    · rw [if_pos h0, if_pos h0]
    · rw [if_neg h0] at hp
      rw [if_neg h0, if_neg h0]
      split at hp
      · omega
      · split at hp
        · omega
        · split at hp
          · omega
          · have hr := fd_rng n g p
            rw [← e]
            rw [← h _ 1 (by omega) (by omega), ← h _ 3 (by omega) (by omega), ← h _ 4 (by omega) (by omega), ← h _ 5 (by omega) (by omega), ← h _ 6 (by omega) (by omega), ← h _ 7 (by omega) (by omega)]
            exact ih _ _ _ _ hp
theorem Cd_cg {n : Nat} {g g' : Nat → Nat → Int} (h : ∀ k j, k < n → j < 10 → g k j = g' k j) (hC : Cd n g) : Cd n g' := fun i hi => by
  rw [← h i 3 hi (by omega), ← h i 4 hi (by omega), ← h i 5 hi (by omega), ← h i 6 hi (by omega), ← h i 7 hi (by omega)]
  exact hC i hi
theorem ouP_cg {n : Nat} {g g' : Nat → Nat → Int} (h : ∀ k j, k < n → j < 10 → g k j = g' k j) {p x y : Int} (hP : q_ouP n g p x y) : q_ouP n g' p x y := ⟨Cd_cg h hP.1, by rw [← pe_cg h]; exact hP.2.1, hP.2.2⟩
noncomputable def O30 : Orac := addM 32 (fun nb vs H => match nb, vs, H with
  | 0, [.one (.view n 12 row), .one (.int .i64 p), .one (.int .i64 x), .one (.int .i64 y)], [] => some (q_dec (q_isRw row ∧ n ≤ 100000 ∧ q_ouP n (q_nu n row) p x y), .tup [i64 (q_ou n (q_nu n row) 20 p x y).1, i64 (q_ou n (q_nu n row) 20 p x y).2], [])
  | _, _, _ => none) O21
theorem sO30 : Sound prog gl O30 := add_ok (D := noD) sO21 sO21 mo (fun nb vs H v H' h => by
  split at h
  · rename_i n row p x y
    obtain ⟨h1, h2, h3⟩ : q_dec (q_isRw row ∧ n ≤ 100000 ∧ q_ouP n (q_nu n row) p x y) = true ∧ .tup [i64 (q_ou n (q_nu n row) 20 p x y).1, i64 (q_ou n (q_nu n row) 20 p x y).2] = v ∧ [] = H' := by simpa using h
    subst h2 h3
    obtain ⟨⟨g, sx, jx, rfl⟩, hn, hP⟩ := q_dec_iff.1 h1
    rw [nu_rwj] at hP
    have hg : ∀ k j, k < n → j < 10 → cutG n g k j = g k j := fun k j hk hj => cutG_in hk hj
    rw [nu_rwj, ou_cg hg 20 p x y 1 hP.2.1]
    obtain ⟨hC, hp, hx, hy⟩ := ouP_cg hg hP
    exact ⟨20, (out_pre 20 n _ p x y).trans (out_loop 20 n hn g sx jx hC 20 20 p x y 1 (by omega) hp (by omega) (by omega) (by omega))⟩
  · cases h)
/-! corners -/
theorem cor_raw (n : Nat) (row : Nat → Nat → PS) (c : Nat → Int) (s1 s2 : ByteArray) : callF prog gl noD 6 O30 0 21 [.one (.view n 12 row), .agg (cel c s1 s2)] [] = (if (q_small (1000000000000 : Nat) (c (3 : Nat)) && (q_small (1000000000000 : Nat) (c (4 : Nat)) && (q_small (1000000000000 : Nat) (W (W ((2 : Int) * c (3 : Nat)) + c (5 : Nat))) && (q_small (1000000000000 : Nat) (W (W ((2 : Int) * c (4 : Nat)) + c (6 : Nat))) && q_small (900000 : Nat) (c (7 : Nat)))))) = true then (if (q_dec (q_isRw row ∧ n ≤ (100000 : Nat) ∧ q_ouP n (q_nu n row) (c (1 : Nat)) (q_tx (c (3 : Nat)) (c (4 : Nat)) (W (W ((2 : Int) * c (3 : Nat)) + c (5 : Nat))) (W (W ((2 : Int) * c (4 : Nat)) + c (6 : Nat))) (c (7 : Nat))) (q_ty (c (3 : Nat)) (c (4 : Nat)) (W (W ((2 : Int) * c (3 : Nat)) + c (5 : Nat))) (W (W ((2 : Int) * c (4 : Nat)) + c (6 : Nat))) (c (7 : Nat))))) = true then (if (q_small (1000000000000 : Nat) (W (c (3 : Nat) + c (5 : Nat))) && (q_small (1000000000000 : Nat) (c (4 : Nat)) && (q_small (1000000000000 : Nat) (W (W ((2 : Int) * c (3 : Nat)) + c (5 : Nat))) && (q_small (1000000000000 : Nat) (W (W ((2 : Int) * c (4 : Nat)) + c (6 : Nat))) && q_small (900000 : Nat) (c (7 : Nat)))))) = true then (if (q_dec (q_isRw row ∧ n ≤ (100000 : Nat) ∧ q_ouP n (q_nu n row) (c (1 : Nat)) (q_tx (W (c (3 : Nat) + c (5 : Nat))) (c (4 : Nat)) (W (W ((2 : Int) * c (3 : Nat)) + c (5 : Nat))) (W (W ((2 : Int) * c (4 : Nat)) + c (6 : Nat))) (c (7 : Nat))) (q_ty (W (c (3 : Nat) + c (5 : Nat))) (c (4 : Nat)) (W (W ((2 : Int) * c (3 : Nat)) + c (5 : Nat))) (W (W ((2 : Int) * c (4 : Nat)) + c (6 : Nat))) (c (7 : Nat))))) = true then (if (q_small (1000000000000 : Nat) (W (c (3 : Nat) + c (5 : Nat))) && (q_small (1000000000000 : Nat) (W (c (4 : Nat) + c (6 : Nat))) && (q_small (1000000000000 : Nat) (W (W ((2 : Int) * c (3 : Nat)) + c (5 : Nat))) && (q_small (1000000000000 : Nat) (W (W ((2 : Int) * c (4 : Nat)) + c (6 : Nat))) && q_small (900000 : Nat) (c (7 : Nat)))))) = true then (if (q_dec (q_isRw row ∧ n ≤ (100000 : Nat) ∧ q_ouP n (q_nu n row) (c (1 : Nat)) (q_tx (W (c (3 : Nat) + c (5 : Nat))) (W (c (4 : Nat) + c (6 : Nat))) (W (W ((2 : Int) * c (3 : Nat)) + c (5 : Nat))) (W (W ((2 : Int) * c (4 : Nat)) + c (6 : Nat))) (c (7 : Nat))) (q_ty (W (c (3 : Nat) + c (5 : Nat))) (W (c (4 : Nat) + c (6 : Nat))) (W (W ((2 : Int) * c (3 : Nat)) + c (5 : Nat))) (W (W ((2 : Int) * c (4 : Nat)) + c (6 : Nat))) (c (7 : Nat))))) = true then (if (q_small (1000000000000 : Nat) (c (3 : Nat)) && (q_small (1000000000000 : Nat) (W (c (4 : Nat) + c (6 : Nat))) && (q_small (1000000000000 : Nat) (W (W ((2 : Int) * c (3 : Nat)) + c (5 : Nat))) && (q_small (1000000000000 : Nat) (W (W ((2 : Int) * c (4 : Nat)) + c (6 : Nat))) && q_small (900000 : Nat) (c (7 : Nat)))))) = true then (if (q_dec (q_isRw row ∧ n ≤ (100000 : Nat) ∧ q_ouP n (q_nu n row) (c (1 : Nat)) (q_tx (c (3 : Nat)) (W (c (4 : Nat) + c (6 : Nat))) (W (W ((2 : Int) * c (3 : Nat)) + c (5 : Nat))) (W (W ((2 : Int) * c (4 : Nat)) + c (6 : Nat))) (c (7 : Nat))) (q_ty (c (3 : Nat)) (W (c (4 : Nat) + c (6 : Nat))) (W (W ((2 : Int) * c (3 : Nat)) + c (5 : Nat))) (W (W ((2 : Int) * c (4 : Nat)) + c (6 : Nat))) (c (7 : Nat))))) = true then (some ((PV.agg [PS.int IntKind.i64 (q_ou n (q_nu n row) (20 : Nat) (c (1 : Nat)) (q_tx (c (3 : Nat)) (c (4 : Nat)) (W ((fun a b ↦ a + b) (W ((fun a b ↦ a * b) (2 : Int) (c (3 : Nat)))) (c (5 : Nat)))) (W ((fun a b ↦ a + b) (W ((fun a b ↦ a * b) (2 : Int) (c (4 : Nat)))) (c (6 : Nat)))) (c (7 : Nat))) (q_ty (c (3 : Nat)) (c (4 : Nat)) (W ((fun a b ↦ a + b) (W ((fun a b ↦ a * b) (2 : Int) (c (3 : Nat)))) (c (5 : Nat)))) (W ((fun a b ↦ a + b) (W ((fun a b ↦ a * b) (2 : Int) (c (4 : Nat)))) (c (6 : Nat)))) (c (7 : Nat)))).1, PS.int IntKind.i64 (q_ou n (q_nu n row) (20 : Nat) (c (1 : Nat)) (q_tx (c (3 : Nat)) (c (4 : Nat)) (W ((fun a b ↦ a + b) (W ((fun a b ↦ a * b) (2 : Int) (c (3 : Nat)))) (c (5 : Nat)))) (W ((fun a b ↦ a + b) (W ((fun a b ↦ a * b) (2 : Int) (c (4 : Nat)))) (c (6 : Nat)))) (c (7 : Nat))) (q_ty (c (3 : Nat)) (c (4 : Nat)) (W ((fun a b ↦ a + b) (W ((fun a b ↦ a * b) (2 : Int) (c (3 : Nat)))) (c (5 : Nat)))) (W ((fun a b ↦ a + b) (W ((fun a b ↦ a * b) (2 : Int) (c (4 : Nat)))) (c (6 : Nat)))) (c (7 : Nat)))).2, PS.int IntKind.i64 (q_ou n (q_nu n row) (20 : Nat) (c (1 : Nat)) (q_tx (W ((fun a b ↦ a + b) (c (3 : Nat)) (c (5 : Nat)))) (c (4 : Nat)) (W ((fun a b ↦ a + b) (W ((fun a b ↦ a * b) (2 : Int) (c (3 : Nat)))) (c (5 : Nat)))) (W ((fun a b ↦ a + b) (W ((fun a b ↦ a * b) (2 : Int) (c (4 : Nat)))) (c (6 : Nat)))) (c (7 : Nat))) (q_ty (W ((fun a b ↦ a + b) (c (3 : Nat)) (c (5 : Nat)))) (c (4 : Nat)) (W ((fun a b ↦ a + b) (W ((fun a b ↦ a * b) (2 : Int) (c (3 : Nat)))) (c (5 : Nat)))) (W ((fun a b ↦ a + b) (W ((fun a b ↦ a * b) (2 : Int) (c (4 : Nat)))) (c (6 : Nat)))) (c (7 : Nat)))).1, PS.int IntKind.i64 (q_ou n (q_nu n row) (20 : Nat) (c (1 : Nat)) (q_tx (W ((fun a b ↦ a + b) (c (3 : Nat)) (c (5 : Nat)))) (c (4 : Nat)) (W ((fun a b ↦ a + b) (W ((fun a b ↦ a * b) (2 : Int) (c (3 : Nat)))) (c (5 : Nat)))) (W ((fun a b ↦ a + b) (W ((fun a b ↦ a * b) (2 : Int) (c (4 : Nat)))) (c (6 : Nat)))) (c (7 : Nat))) (q_ty (W ((fun a b ↦ a + b) (c (3 : Nat)) (c (5 : Nat)))) (c (4 : Nat)) (W ((fun a b ↦ a + b) (W ((fun a b ↦ a * b) (2 : Int) (c (3 : Nat)))) (c (5 : Nat)))) (W ((fun a b ↦ a + b) (W ((fun a b ↦ a * b) (2 : Int) (c (4 : Nat)))) (c (6 : Nat)))) (c (7 : Nat)))).2, PS.int IntKind.i64 (q_ou n (q_nu n row) (20 : Nat) (c (1 : Nat)) (q_tx (W ((fun a b ↦ a + b) (c (3 : Nat)) (c (5 : Nat)))) (W ((fun a b ↦ a + b) (c (4 : Nat)) (c (6 : Nat)))) (W ((fun a b ↦ a + b) (W ((fun a b ↦ a * b) (2 : Int) (c (3 : Nat)))) (c (5 : Nat)))) (W ((fun a b ↦ a + b) (W ((fun a b ↦ a * b) (2 : Int) (c (4 : Nat)))) (c (6 : Nat)))) (c (7 : Nat))) (q_ty (W ((fun a b ↦ a + b) (c (3 : Nat)) (c (5 : Nat)))) (W ((fun a b ↦ a + b) (c (4 : Nat)) (c (6 : Nat)))) (W ((fun a b ↦ a + b) (W ((fun a b ↦ a * b) (2 : Int) (c (3 : Nat)))) (c (5 : Nat)))) (W ((fun a b ↦ a + b) (W ((fun a b ↦ a * b) (2 : Int) (c (4 : Nat)))) (c (6 : Nat)))) (c (7 : Nat)))).1, PS.int IntKind.i64 (q_ou n (q_nu n row) (20 : Nat) (c (1 : Nat)) (q_tx (W ((fun a b ↦ a + b) (c (3 : Nat)) (c (5 : Nat)))) (W ((fun a b ↦ a + b) (c (4 : Nat)) (c (6 : Nat)))) (W ((fun a b ↦ a + b) (W ((fun a b ↦ a * b) (2 : Int) (c (3 : Nat)))) (c (5 : Nat)))) (W ((fun a b ↦ a + b) (W ((fun a b ↦ a * b) (2 : Int) (c (4 : Nat)))) (c (6 : Nat)))) (c (7 : Nat))) (q_ty (W ((fun a b ↦ a + b) (c (3 : Nat)) (c (5 : Nat)))) (W ((fun a b ↦ a + b) (c (4 : Nat)) (c (6 : Nat)))) (W ((fun a b ↦ a + b) (W ((fun a b ↦ a * b) (2 : Int) (c (3 : Nat)))) (c (5 : Nat)))) (W ((fun a b ↦ a + b) (W ((fun a b ↦ a * b) (2 : Int) (c (4 : Nat)))) (c (6 : Nat)))) (c (7 : Nat)))).2, PS.int IntKind.i64 (q_ou n (q_nu n row) (20 : Nat) (c (1 : Nat)) (q_tx (c (3 : Nat)) (W ((fun a b ↦ a + b) (c (4 : Nat)) (c (6 : Nat)))) (W ((fun a b ↦ a + b) (W ((fun a b ↦ a * b) (2 : Int) (c (3 : Nat)))) (c (5 : Nat)))) (W ((fun a b ↦ a + b) (W ((fun a b ↦ a * b) (2 : Int) (c (4 : Nat)))) (c (6 : Nat)))) (c (7 : Nat))) (q_ty (c (3 : Nat)) (W ((fun a b ↦ a + b) (c (4 : Nat)) (c (6 : Nat)))) (W ((fun a b ↦ a + b) (W ((fun a b ↦ a * b) (2 : Int) (c (3 : Nat)))) (c (5 : Nat)))) (W ((fun a b ↦ a + b) (W ((fun a b ↦ a * b) (2 : Int) (c (4 : Nat)))) (c (6 : Nat)))) (c (7 : Nat)))).1, PS.int IntKind.i64 (q_ou n (q_nu n row) (20 : Nat) (c (1 : Nat)) (q_tx (c (3 : Nat)) (W ((fun a b ↦ a + b) (c (4 : Nat)) (c (6 : Nat)))) (W ((fun a b ↦ a + b) (W ((fun a b ↦ a * b) (2 : Int) (c (3 : Nat)))) (c (5 : Nat)))) (W ((fun a b ↦ a + b) (W ((fun a b ↦ a * b) (2 : Int) (c (4 : Nat)))) (c (6 : Nat)))) (c (7 : Nat))) (q_ty (c (3 : Nat)) (W ((fun a b ↦ a + b) (c (4 : Nat)) (c (6 : Nat)))) (W ((fun a b ↦ a + b) (W ((fun a b ↦ a * b) (2 : Int) (c (3 : Nat)))) (c (5 : Nat)))) (W ((fun a b ↦ a + b) (W ((fun a b ↦ a * b) (2 : Int) (c (4 : Nat)))) (c (6 : Nat)))) (c (7 : Nat)))).2], []))) else none) else none) else none) else none) else none) else none) else none) else none) := by kernel_rfl
/-- A shape's corner in the drawing. -/
def q_vc (n : Nat) (g : Nat → Nat → Int) (c : Nat → Int) (k : Nat) : Int × Int := q_ou n g 20 (c 1) (q_cx c k) (q_cy c k)
def q_corP (n : Nat) (g : Nat → Nat → Int) (c : Nat → Int) : Prop := Cd n g ∧ q_pe n g 20 (c 1) 1 = 0 ∧ (-20000 ≤ c 3 ∧ c 3 ≤ 20000) ∧ (-20000 ≤ c 4 ∧ c 4 ≤ 20000) ∧ (-20000 ≤ c 5 ∧ c 5 ≤ 20000) ∧ (-20000 ≤ c 6 ∧ c 6 ≤ 20000) ∧ -4000 ≤ c 7 ∧ c 7 ≤ 4000
abbrev corC (n : Nat) (g : Nat → Nat → Int) (c : Nat → Int) : List PS := [.int .i64 (q_vc n g c 0).1, .int .i64 (q_vc n g c 0).2, .int .i64 (q_vc n g c 1).1, .int .i64 (q_vc n g c 1).2, .int .i64 (q_vc n g c 2).1, .int .i64 (q_vc n g c 2).2, .int .i64 (q_vc n g c 3).1, .int .i64 (q_vc n g c 3).2]
theorem corP_out {n : Nat} {g : Nat → Nat → Int} {c : Nat → Int} (h : q_corP n g c) (k : Nat) : q_ouP n g (c 1) (q_cx c k) (q_cy c k) := by
  obtain ⟨h1, h2, h3, h4, h5, h6, h7⟩ := h
  refine ⟨h1, h2, ?_⟩
  have bd := fun x y hx hy => tx_bd (x := x) (y := y) (cx := 2 * c 3 + c 5) (cy := 2 * c 4 + c 6) (t := c 7) (A := 40000) (by omega) hx hy (by omega) (by omega)
  rcases k with _ | _ | _ | k
  · have := bd (c 3) (c 4) (by omega) (by omega)
    exact ⟨⟨by exact (show -200000 ≤ q_tx (c 3) (c 4) (2 * c 3 + c 5) (2 * c 4 + c 6) (c 7) by omega), by exact (show q_tx (c 3) (c 4) (2 * c 3 + c 5) (2 * c 4 + c 6) (c 7) ≤ 200000 by omega)⟩, by exact (show -200000 ≤ q_ty (c 3) (c 4) (2 * c 3 + c 5) (2 * c 4 + c 6) (c 7) by omega), by exact (show q_ty (c 3) (c 4) (2 * c 3 + c 5) (2 * c 4 + c 6) (c 7) ≤ 200000 by omega)⟩
  · have := bd (c 3 + c 5) (c 4) (by omega) (by omega)
    exact ⟨⟨by exact (show -200000 ≤ q_tx (c 3 + c 5) (c 4) (2 * c 3 + c 5) (2 * c 4 + c 6) (c 7) by omega), by exact (show q_tx (c 3 + c 5) (c 4) (2 * c 3 + c 5) (2 * c 4 + c 6) (c 7) ≤ 200000 by omega)⟩, by exact (show -200000 ≤ q_ty (c 3 + c 5) (c 4) (2 * c 3 + c 5) (2 * c 4 + c 6) (c 7) by omega), by exact (show q_ty (c 3 + c 5) (c 4) (2 * c 3 + c 5) (2 * c 4 + c 6) (c 7) ≤ 200000 by omega)⟩
  · have := bd (c 3 + c 5) (c 4 + c 6) (by omega) (by omega)
    exact ⟨⟨by exact (show -200000 ≤ q_tx (c 3 + c 5) (c 4 + c 6) (2 * c 3 + c 5) (2 * c 4 + c 6) (c 7) by omega), by exact (show q_tx (c 3 + c 5) (c 4 + c 6) (2 * c 3 + c 5) (2 * c 4 + c 6) (c 7) ≤ 200000 by omega)⟩, by exact (show -200000 ≤ q_ty (c 3 + c 5) (c 4 + c 6) (2 * c 3 + c 5) (2 * c 4 + c 6) (c 7) by omega), by exact (show q_ty (c 3 + c 5) (c 4 + c 6) (2 * c 3 + c 5) (2 * c 4 + c 6) (c 7) ≤ 200000 by omega)⟩
  · have := bd (c 3) (c 4 + c 6) (by omega) (by omega)
    exact ⟨⟨by exact (show -200000 ≤ q_tx (c 3) (c 4 + c 6) (2 * c 3 + c 5) (2 * c 4 + c 6) (c 7) by omega), by exact (show q_tx (c 3) (c 4 + c 6) (2 * c 3 + c 5) (2 * c 4 + c 6) (c 7) ≤ 200000 by omega)⟩, by exact (show -200000 ≤ q_ty (c 3) (c 4 + c 6) (2 * c 3 + c 5) (2 * c 4 + c 6) (c 7) by omega), by exact (show q_ty (c 3) (c 4 + c 6) (2 * c 3 + c 5) (2 * c 4 + c 6) (c 7) ≤ 200000 by omega)⟩
theorem cor_eq (n : Nat) (hn : n ≤ 100000) (g : Nat → Nat → Int) (sx : Nat → Nat → ByteArray) (jx : Nat → Nat → PS) (c : Nat → Int) (s1 s2 : ByteArray) (h : q_corP n (q_nu n (rwj g sx jx)) c) : callF prog gl noD 6 O30 0 21 [.one (.view n 12 (rwj g sx jx)), .agg (cel c s1 s2)] [] = some (.agg (corC n (q_nu n (rwj g sx jx)) c), []) := by
  have o0 := q_dec_iff.2 (show q_isRw (rwj g sx jx) ∧ n ≤ 100000 ∧ q_ouP n (q_nu n (rwj g sx jx)) (c 1) (q_cx c 0) (q_cy c 0) from ⟨⟨g, sx, jx, rfl⟩, hn, corP_out h 0⟩)
  have o1 := q_dec_iff.2 (show q_isRw (rwj g sx jx) ∧ n ≤ 100000 ∧ q_ouP n (q_nu n (rwj g sx jx)) (c 1) (q_cx c 1) (q_cy c 1) from ⟨⟨g, sx, jx, rfl⟩, hn, corP_out h 1⟩)
  have o2 := q_dec_iff.2 (show q_isRw (rwj g sx jx) ∧ n ≤ 100000 ∧ q_ouP n (q_nu n (rwj g sx jx)) (c 1) (q_cx c 2) (q_cy c 2) from ⟨⟨g, sx, jx, rfl⟩, hn, corP_out h 2⟩)
  have o3 := q_dec_iff.2 (show q_isRw (rwj g sx jx) ∧ n ≤ 100000 ∧ q_ouP n (q_nu n (rwj g sx jx)) (c 1) (q_cx c 3) (q_cy c 3) from ⟨⟨g, sx, jx, rfl⟩, hn, corP_out h 3⟩)
  obtain ⟨h1, h2, h3, h4, h5, h6, h7⟩ := h
  rw [cor_raw]
  rw [W_id (n := 2 * c 3) (by omega) (by omega), W_id (n := 2 * c 4) (by omega) (by omega), W_id (n := 2 * c 3 + c 5) (by omega) (by omega), W_id (n := 2 * c 4 + c 6) (by omega) (by omega), W_id (n := c 3 + c 5) (by omega) (by omega), W_id (n := c 4 + c 6) (by omega) (by omega)]
  have t1 : q_small 1000000000000 (c 3) = true := small_iff.2 (by omega)
  have t2 : q_small 1000000000000 (c 4) = true := small_iff.2 (by omega)
  have t3 : q_small 1000000000000 (2 * c 3 + c 5) = true := small_iff.2 (by omega)
  have t4 : q_small 1000000000000 (2 * c 4 + c 6) = true := small_iff.2 (by omega)
  have t5 : q_small 900000 (c 7) = true := small_iff.2 (by omega)
  have t6 : q_small 1000000000000 (c 3 + c 5) = true := small_iff.2 (by omega)
  have t7 : q_small 1000000000000 (c 4 + c 6) = true := small_iff.2 (by omega)
  simp only [q_cx, q_cy] at o0 o1 o2 o3
  rw [t1, t2, t3, t4, t5, t6, t7, o0, o1, o2, o3]
  rfl
theorem corP_cg {n : Nat} {g g' : Nat → Nat → Int} {c : Nat → Int} (h : ∀ k j, k < n → j < 10 → g k j = g' k j) (hP : q_corP n g c) : q_corP n g' c := ⟨Cd_cg h hP.1, by rw [← pe_cg h]; exact hP.2.1, hP.2.2⟩
theorem c10_vc (n : Nat) (g : Nat → Nat → Int) (c : Nat → Int) (k : Nat) : q_vc n g (q_c10 (c 0) (c 1) (c 2) (c 3) (c 4) (c 5) (c 6) (c 7) (c 8) (c 9)) k = q_vc n g c k := by
  unfold q_vc
  rw [c10_cx, c10_cy]
  rfl
noncomputable def O31 : Orac := addM 21 (fun nb vs H => match nb, vs, H with
  | 0, [.one (.view n 12 row), .agg [.int .i64 c0, .int .i64 c1, .int .i64 c2, .int .i64 c3, .int .i64 c4, .int .i64 c5, .int .i64 c6, .int .i64 c7, .int .i64 c8, .int .i64 c9, .str s1, .str s2]], [] => some (q_dec (q_isRw row ∧ n ≤ 100000 ∧ q_corP n (q_nu n row) (q_c10 c0 c1 c2 c3 c4 c5 c6 c7 c8 c9)), .agg (corC n (q_nu n row) (q_c10 c0 c1 c2 c3 c4 c5 c6 c7 c8 c9)), [])
  | _, _, _ => none) O30
theorem sO31 : Sound prog gl O31 := add_ok (D := noD) sO30 sO30 mo (fun nb vs H v H' h => by
  split at h
  · rename_i n row c0 c1 c2 c3 c4 c5 c6 c7 c8 c9 s1 s2
    obtain ⟨h1, h2, h3⟩ : q_dec (q_isRw row ∧ n ≤ 100000 ∧ q_corP n (q_nu n row) (q_c10 c0 c1 c2 c3 c4 c5 c6 c7 c8 c9)) = true ∧ .agg (corC n (q_nu n row) (q_c10 c0 c1 c2 c3 c4 c5 c6 c7 c8 c9)) = v ∧ [] = H' := by simpa using h
    subst h2 h3
    obtain ⟨⟨g, sx, jx, rfl⟩, hn, hP⟩ := q_dec_iff.1 h1
    exact ⟨6, cor_eq n hn g sx jx (q_c10 c0 c1 c2 c3 c4 c5 c6 c7 c8 c9) s1 s2 hP⟩
  · cases h)
/-! Corners -/
theorem crs_raw (n : Nat) (g : Nat → Nat → Int) (sx : Nat → Nat → ByteArray) (jx : Nat → Nat → PS) (x : Int) : callF prog gl noD 2 O31 0 10 [.one (.view n 12 (rwj g sx jx)), i64 x] [] = (if (q_dec (q_isRw (rwj g sx jx) ∧ n ≤ (100000 : Nat))) = true then (if (q_chk n (q_nu n (rwj g sx jx)) != (0 : Int)) = true then (some ((PV.tup [PV.one PS.nils, i64 ((q_chk n (q_nu n (rwj g sx jx))))], []))) else (if (q_dec (q_isRw (rwj g sx jx) ∧ n ≤ (100000 : Nat))) = true then (if (decide (q_fd n (q_nu n (rwj g sx jx)) x < (0 : Int))) = true then (some ((PV.tup [PV.one PS.nils, i64 ((7 : Int))], []))) else (chk true (decide ((0 : Int) ≤ q_fd n (q_nu n (rwj g sx jx)) x) && decide (q_fd n (q_nu n (rwj g sx jx)) x < (↑n : Int))) (if (q_dec (q_isRw (rwj g sx jx) ∧ n ≤ (100000 : Nat) ∧ q_corP n (q_nu n (rwj g sx jx)) (q_c10 (g (q_fd n (q_nu n (rwj g sx jx)) x).toNat (0 : Nat)) (g (q_fd n (q_nu n (rwj g sx jx)) x).toNat (1 : Nat)) (g (q_fd n (q_nu n (rwj g sx jx)) x).toNat (2 : Nat)) (g (q_fd n (q_nu n (rwj g sx jx)) x).toNat (3 : Nat)) (g (q_fd n (q_nu n (rwj g sx jx)) x).toNat (4 : Nat)) (g (q_fd n (q_nu n (rwj g sx jx)) x).toNat (5 : Nat)) (g (q_fd n (q_nu n (rwj g sx jx)) x).toNat (6 : Nat)) (g (q_fd n (q_nu n (rwj g sx jx)) x).toNat (7 : Nat)) (g (q_fd n (q_nu n (rwj g sx jx)) x).toNat (8 : Nat)) (g (q_fd n (q_nu n (rwj g sx jx)) x).toNat (9 : Nat))))) = true then (some ((PV.tup [PV.one (PS.view (4 : Nat) (2 : Nat) (litRow (2 : Nat) [PS.int IntKind.i64 (q_vc n (q_nu n (rwj g sx jx)) (q_c10 (g (q_fd n (q_nu n (rwj g sx jx)) x).toNat ((0 : Nat) + nat_lit 0)) (g (q_fd n (q_nu n (rwj g sx jx)) x).toNat ((0 : Nat) + nat_lit 1)) (g (q_fd n (q_nu n (rwj g sx jx)) x).toNat ((0 : Nat) + nat_lit 2)) (g (q_fd n (q_nu n (rwj g sx jx)) x).toNat ((0 : Nat) + nat_lit 3)) (g (q_fd n (q_nu n (rwj g sx jx)) x).toNat ((0 : Nat) + nat_lit 4)) (g (q_fd n (q_nu n (rwj g sx jx)) x).toNat ((0 : Nat) + nat_lit 5)) (g (q_fd n (q_nu n (rwj g sx jx)) x).toNat ((0 : Nat) + nat_lit 6)) (g (q_fd n (q_nu n (rwj g sx jx)) x).toNat ((0 : Nat) + nat_lit 7)) (g (q_fd n (q_nu n (rwj g sx jx)) x).toNat ((0 : Nat) + nat_lit 8)) (g (q_fd n (q_nu n (rwj g sx jx)) x).toNat ((0 : Nat) + nat_lit 9))) (0 : Nat)).1, PS.int IntKind.i64 (q_vc n (q_nu n (rwj g sx jx)) (q_c10 (g (q_fd n (q_nu n (rwj g sx jx)) x).toNat ((0 : Nat) + nat_lit 0)) (g (q_fd n (q_nu n (rwj g sx jx)) x).toNat ((0 : Nat) + nat_lit 1)) (g (q_fd n (q_nu n (rwj g sx jx)) x).toNat ((0 : Nat) + nat_lit 2)) (g (q_fd n (q_nu n (rwj g sx jx)) x).toNat ((0 : Nat) + nat_lit 3)) (g (q_fd n (q_nu n (rwj g sx jx)) x).toNat ((0 : Nat) + nat_lit 4)) (g (q_fd n (q_nu n (rwj g sx jx)) x).toNat ((0 : Nat) + nat_lit 5)) (g (q_fd n (q_nu n (rwj g sx jx)) x).toNat ((0 : Nat) + nat_lit 6)) (g (q_fd n (q_nu n (rwj g sx jx)) x).toNat ((0 : Nat) + nat_lit 7)) (g (q_fd n (q_nu n (rwj g sx jx)) x).toNat ((0 : Nat) + nat_lit 8)) (g (q_fd n (q_nu n (rwj g sx jx)) x).toNat ((0 : Nat) + nat_lit 9))) (0 : Nat)).2, PS.int IntKind.i64 (q_vc n (q_nu n (rwj g sx jx)) (q_c10 (g (q_fd n (q_nu n (rwj g sx jx)) x).toNat ((0 : Nat) + nat_lit 0)) (g (q_fd n (q_nu n (rwj g sx jx)) x).toNat ((0 : Nat) + nat_lit 1)) (g (q_fd n (q_nu n (rwj g sx jx)) x).toNat ((0 : Nat) + nat_lit 2)) (g (q_fd n (q_nu n (rwj g sx jx)) x).toNat ((0 : Nat) + nat_lit 3)) (g (q_fd n (q_nu n (rwj g sx jx)) x).toNat ((0 : Nat) + nat_lit 4)) (g (q_fd n (q_nu n (rwj g sx jx)) x).toNat ((0 : Nat) + nat_lit 5)) (g (q_fd n (q_nu n (rwj g sx jx)) x).toNat ((0 : Nat) + nat_lit 6)) (g (q_fd n (q_nu n (rwj g sx jx)) x).toNat ((0 : Nat) + nat_lit 7)) (g (q_fd n (q_nu n (rwj g sx jx)) x).toNat ((0 : Nat) + nat_lit 8)) (g (q_fd n (q_nu n (rwj g sx jx)) x).toNat ((0 : Nat) + nat_lit 9))) (1 : Nat)).1, PS.int IntKind.i64 (q_vc n (q_nu n (rwj g sx jx)) (q_c10 (g (q_fd n (q_nu n (rwj g sx jx)) x).toNat ((0 : Nat) + nat_lit 0)) (g (q_fd n (q_nu n (rwj g sx jx)) x).toNat ((0 : Nat) + nat_lit 1)) (g (q_fd n (q_nu n (rwj g sx jx)) x).toNat ((0 : Nat) + nat_lit 2)) (g (q_fd n (q_nu n (rwj g sx jx)) x).toNat ((0 : Nat) + nat_lit 3)) (g (q_fd n (q_nu n (rwj g sx jx)) x).toNat ((0 : Nat) + nat_lit 4)) (g (q_fd n (q_nu n (rwj g sx jx)) x).toNat ((0 : Nat) + nat_lit 5)) (g (q_fd n (q_nu n (rwj g sx jx)) x).toNat ((0 : Nat) + nat_lit 6)) (g (q_fd n (q_nu n (rwj g sx jx)) x).toNat ((0 : Nat) + nat_lit 7)) (g (q_fd n (q_nu n (rwj g sx jx)) x).toNat ((0 : Nat) + nat_lit 8)) (g (q_fd n (q_nu n (rwj g sx jx)) x).toNat ((0 : Nat) + nat_lit 9))) (1 : Nat)).2, PS.int IntKind.i64 (q_vc n (q_nu n (rwj g sx jx)) (q_c10 (g (q_fd n (q_nu n (rwj g sx jx)) x).toNat ((0 : Nat) + nat_lit 0)) (g (q_fd n (q_nu n (rwj g sx jx)) x).toNat ((0 : Nat) + nat_lit 1)) (g (q_fd n (q_nu n (rwj g sx jx)) x).toNat ((0 : Nat) + nat_lit 2)) (g (q_fd n (q_nu n (rwj g sx jx)) x).toNat ((0 : Nat) + nat_lit 3)) (g (q_fd n (q_nu n (rwj g sx jx)) x).toNat ((0 : Nat) + nat_lit 4)) (g (q_fd n (q_nu n (rwj g sx jx)) x).toNat ((0 : Nat) + nat_lit 5)) (g (q_fd n (q_nu n (rwj g sx jx)) x).toNat ((0 : Nat) + nat_lit 6)) (g (q_fd n (q_nu n (rwj g sx jx)) x).toNat ((0 : Nat) + nat_lit 7)) (g (q_fd n (q_nu n (rwj g sx jx)) x).toNat ((0 : Nat) + nat_lit 8)) (g (q_fd n (q_nu n (rwj g sx jx)) x).toNat ((0 : Nat) + nat_lit 9))) (2 : Nat)).1, PS.int IntKind.i64 (q_vc n (q_nu n (rwj g sx jx)) (q_c10 (g (q_fd n (q_nu n (rwj g sx jx)) x).toNat ((0 : Nat) + nat_lit 0)) (g (q_fd n (q_nu n (rwj g sx jx)) x).toNat ((0 : Nat) + nat_lit 1)) (g (q_fd n (q_nu n (rwj g sx jx)) x).toNat ((0 : Nat) + nat_lit 2)) (g (q_fd n (q_nu n (rwj g sx jx)) x).toNat ((0 : Nat) + nat_lit 3)) (g (q_fd n (q_nu n (rwj g sx jx)) x).toNat ((0 : Nat) + nat_lit 4)) (g (q_fd n (q_nu n (rwj g sx jx)) x).toNat ((0 : Nat) + nat_lit 5)) (g (q_fd n (q_nu n (rwj g sx jx)) x).toNat ((0 : Nat) + nat_lit 6)) (g (q_fd n (q_nu n (rwj g sx jx)) x).toNat ((0 : Nat) + nat_lit 7)) (g (q_fd n (q_nu n (rwj g sx jx)) x).toNat ((0 : Nat) + nat_lit 8)) (g (q_fd n (q_nu n (rwj g sx jx)) x).toNat ((0 : Nat) + nat_lit 9))) (2 : Nat)).2, PS.int IntKind.i64 (q_vc n (q_nu n (rwj g sx jx)) (q_c10 (g (q_fd n (q_nu n (rwj g sx jx)) x).toNat ((0 : Nat) + nat_lit 0)) (g (q_fd n (q_nu n (rwj g sx jx)) x).toNat ((0 : Nat) + nat_lit 1)) (g (q_fd n (q_nu n (rwj g sx jx)) x).toNat ((0 : Nat) + nat_lit 2)) (g (q_fd n (q_nu n (rwj g sx jx)) x).toNat ((0 : Nat) + nat_lit 3)) (g (q_fd n (q_nu n (rwj g sx jx)) x).toNat ((0 : Nat) + nat_lit 4)) (g (q_fd n (q_nu n (rwj g sx jx)) x).toNat ((0 : Nat) + nat_lit 5)) (g (q_fd n (q_nu n (rwj g sx jx)) x).toNat ((0 : Nat) + nat_lit 6)) (g (q_fd n (q_nu n (rwj g sx jx)) x).toNat ((0 : Nat) + nat_lit 7)) (g (q_fd n (q_nu n (rwj g sx jx)) x).toNat ((0 : Nat) + nat_lit 8)) (g (q_fd n (q_nu n (rwj g sx jx)) x).toNat ((0 : Nat) + nat_lit 9))) (3 : Nat)).1, PS.int IntKind.i64 (q_vc n (q_nu n (rwj g sx jx)) (q_c10 (g (q_fd n (q_nu n (rwj g sx jx)) x).toNat ((0 : Nat) + nat_lit 0)) (g (q_fd n (q_nu n (rwj g sx jx)) x).toNat ((0 : Nat) + nat_lit 1)) (g (q_fd n (q_nu n (rwj g sx jx)) x).toNat ((0 : Nat) + nat_lit 2)) (g (q_fd n (q_nu n (rwj g sx jx)) x).toNat ((0 : Nat) + nat_lit 3)) (g (q_fd n (q_nu n (rwj g sx jx)) x).toNat ((0 : Nat) + nat_lit 4)) (g (q_fd n (q_nu n (rwj g sx jx)) x).toNat ((0 : Nat) + nat_lit 5)) (g (q_fd n (q_nu n (rwj g sx jx)) x).toNat ((0 : Nat) + nat_lit 6)) (g (q_fd n (q_nu n (rwj g sx jx)) x).toNat ((0 : Nat) + nat_lit 7)) (g (q_fd n (q_nu n (rwj g sx jx)) x).toNat ((0 : Nat) + nat_lit 8)) (g (q_fd n (q_nu n (rwj g sx jx)) x).toNat ((0 : Nat) + nat_lit 9))) (3 : Nat)).2])), i64 ((0 : Int))], []))) else none))) else none)) else none) := by kernel_rfl
theorem fd_up {k n : Nat} {g : Nat → Nat → Int} {x : Int} (h : k ≤ n) (h0 : 0 ≤ q_fd k g x) : q_fd n g x = q_fd k g x := by
  rcases fd_spec k g x with ⟨h1, _⟩ | ⟨j, h1, h2, h3, h4⟩
  · omega
  · rw [h2]; exact fd_at (by omega) h3 h4
theorem pe_up {k n : Nat} {g : Nat → Nat → Int} (h : k ≤ n) : ∀ (f : Nat) (p d : Int), q_pe k g f p d = 0 → q_pe n g f p d = 0 := by
  intro f
  induction f with
  | zero => intro p d h; exact h
  | succ f ih =>
    intro p d hp
    unfold q_pe at hp ⊢
    split at hp
    · rename_i e; rw [if_pos e]
    · rename_i e0
      split at hp
      · omega
      · rename_i e1
        split at hp
        · omega
        · rename_i e2
          split at hp
          · omega
          · rename_i e3
            rw [if_neg e0, if_neg e1, fd_up h (by omega), if_neg e2, if_neg e3]
            exact ih _ _ hp
theorem chk_pe {n : Nat} {g : Nat → Nat → Int} (h : q_chk n g = 0) {i : Nat} (hi : i < n) : q_pe n g 20 (g i 1) 1 = 0 := by
  have := (chk_ok_iff h).2 i hi
  unfold q_ce at this
  split at this
  · omega
  · split at this
    · omega
    · exact pe_up (by omega) _ _ _ this
/-- What Corners is asked for. -/
def q_crP (n : Nat) (row : Nat → Nat → PS) (x : Int) : Prop := q_isRw row ∧ n ≤ 1000 ∧ q_chk n (q_nu n row) = 0 ∧ Cd n (q_nu n row) ∧ 0 ≤ q_fd n (q_nu n row) x
/-- The corners of a drawing's item. -/
def q_vi (n : Nat) (g : Nat → Nat → Int) (x : Int) (k : Nat) : Int × Int := q_vc n g (fun j => g (q_fd n g x).toNat j) k
abbrev crV (n : Nat) (g : Nat → Nat → Int) (x : Int) : List PS := [.int .i64 (q_vi n g x 0).1, .int .i64 (q_vi n g x 0).2, .int .i64 (q_vi n g x 1).1, .int .i64 (q_vi n g x 1).2, .int .i64 (q_vi n g x 2).1, .int .i64 (q_vi n g x 2).2, .int .i64 (q_vi n g x 3).1, .int .i64 (q_vi n g x 3).2]
theorem crs_eq (n : Nat) (row : Nat → Nat → PS) (x : Int) (h : q_crP n row x) : callF prog gl noD 2 O31 0 10 [.one (.view n 12 row), i64 x] [] = some (.tup [.one (.view 4 2 (litRow 2 (crV n (q_nu n row) x))), i64 0], []) := by
  obtain ⟨⟨g, sx, jx, rfl⟩, hn, hc, hC, hf⟩ := h
  have hr := fd_rng n (q_nu n (rwj g sx jx)) x
  have hk : (q_fd n (q_nu n (rwj g sx jx)) x).toNat < n := by omega
  have hpe := chk_pe hc hk
  have hCk := hC _ hk
  have hg : ∀ j, j < 10 → g (q_fd n (q_nu n (rwj g sx jx)) x).toNat j = q_nu n (rwj g sx jx) (q_fd n (q_nu n (rwj g sx jx)) x).toNat j := fun j hj => by
    have e : q_nu n (rwj g sx jx) = cutG n g := nu_rwj
    generalize (q_fd n (q_nu n (rwj g sx jx)) x).toNat = k at *
    rw [e]; exact (cutG_in hk hj).symm
  have i1 : q_dec (q_isRw (rwj g sx jx) ∧ n ≤ 100000) = true := q_dec_iff.2 ⟨⟨g, sx, jx, rfl⟩, by omega⟩
  rw [crs_raw, if_pos i1, if_neg (by rw [hc]; decide), if_pos i1, if_neg (by simp <;> omega), chk_true (by simp <;> omega)]
  simp only [Nat.zero_add]
  rw [hg 0 (by omega), hg 1 (by omega), hg 2 (by omega), hg 3 (by omega), hg 4 (by omega), hg 5 (by omega), hg 6 (by omega), hg 7 (by omega), hg 8 (by omega), hg 9 (by omega)]
  unfold crV q_vi
  generalize (q_fd n (q_nu n (rwj g sx jx)) x).toNat = k at *
  generalize hG : q_nu n (rwj g sx jx) = G at *
  have e := fun q => c10_vc n G (fun j => G k j) q
  rw [e 0, e 1, e 2, e 3]
  exact if_pos (q_dec_iff.2 ⟨⟨g, sx, jx, rfl⟩, by omega, hC, hpe, hCk⟩)
noncomputable def O32 : Orac := addM 10 (fun nb vs H => match nb, vs, H with
  | 0, [.one (.view n 12 row), .one (.int .i64 x)], [] => some (q_dec (q_crP n row x), .tup [.one (.view 4 2 (litRow 2 (crV n (q_nu n row) x))), i64 0], [])
  | _, _, _ => none) O31
theorem sO32 : Sound prog gl O32 := add_ok (D := noD) sO31 sO31 mo (fun nb vs H v H' h => by
  split at h
  · rename_i n row x
    obtain ⟨h1, h2, h3⟩ : q_dec (q_crP n row x) = true ∧ .tup [.one (.view 4 2 (litRow 2 (crV n (q_nu n row) x))), i64 0] = v ∧ [] = H' := by simpa using h
    subst h2 h3
    exact ⟨2, crs_eq n row x (q_dec_iff.1 h1)⟩
  · cases h)
theorem chk_nil  : callF prog gl noD 1 O7 0 17 [.one .nils] [] = (some ((i64 ((0 : Int)), []))) := by kernel_rfl
noncomputable def O32b : Orac := addN 17 (fun nb vs H => match nb, vs, H with
  | 0, [.one .nils], [] => some (true, i64 0, [])
  | _, _, _ => none) O32
theorem sO32b : Sound prog gl O32b := addN_ok sO32 <| add_ok (D := noD) sO32 sO7 mo (fun nb vs H v H' h => by
  split at h
  · obtain ⟨h1, h2⟩ : i64 0 = v ∧ [] = H' := by simpa using h
    subst h1 h2
    exact ⟨1, chk_nil⟩
  · cases h)
end Go.Proofs.YtgipgiejdbhpkaaDoor.Sh
