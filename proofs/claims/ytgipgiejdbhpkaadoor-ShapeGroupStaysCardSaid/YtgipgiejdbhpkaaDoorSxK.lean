import Derived.Test.YtgipgiejdbhpkaaDoorSxJ
namespace Go.Proofs.YtgipgiejdbhpkaaDoor.Sh
open Go Go.RowKit Go.Proofs.YtgipgiejdbhpkaaDoor.Ev Go.Proofs.Tryd
set_option maxRecDepth 1000000
set_option linter.unusedVariables false
/-! frame, extent -/
def q_cx (c : Nat → Int) : Nat → Int
  | 0 => q_tx (c 3) (c 4) (2 * c 3 + c 5) (2 * c 4 + c 6) (c 7)
  | 1 => q_tx (c 3 + c 5) (c 4) (2 * c 3 + c 5) (2 * c 4 + c 6) (c 7)
  | 2 => q_tx (c 3 + c 5) (c 4 + c 6) (2 * c 3 + c 5) (2 * c 4 + c 6) (c 7)
  | _ => q_tx (c 3) (c 4 + c 6) (2 * c 3 + c 5) (2 * c 4 + c 6) (c 7)
def q_cy (c : Nat → Int) : Nat → Int
  | 0 => q_ty (c 3) (c 4) (2 * c 3 + c 5) (2 * c 4 + c 6) (c 7)
  | 1 => q_ty (c 3 + c 5) (c 4) (2 * c 3 + c 5) (2 * c 4 + c 6) (c 7)
  | 2 => q_ty (c 3 + c 5) (c 4 + c 6) (2 * c 3 + c 5) (2 * c 4 + c 6) (c 7)
  | _ => q_ty (c 3) (c 4 + c 6) (2 * c 3 + c 5) (2 * c 4 + c 6) (c 7)
def q_lo (f : Nat → Int) : Int := min (min (min (f 0) (f 1)) (f 2)) (f 3)
def q_hi (f : Nat → Int) : Int := max (max (max (f 0) (f 1)) (f 2)) (f 3)
def q_shP (c : Nat → Int) : Prop := (-2000000 ≤ c 3 ∧ c 3 ≤ 2000000) ∧ (-2000000 ≤ c 4 ∧ c 4 ≤ 2000000) ∧ (-2000000 ≤ c 5 ∧ c 5 ≤ 2000000) ∧ (-2000000 ≤ c 6 ∧ c 6 ≤ 2000000) ∧ -4000 ≤ c 7 ∧ c 7 ≤ 4000
theorem bmin' {a b : Int} : (bif decide (a < b) then a else b) = min b a := bmin
theorem bmax' {a b : Int} : (bif decide (a > b) then a else b) = max b a := bmax
theorem fr_eq (c : Nat → Int) (s1 s2 : ByteArray) (h : q_shP c) : callF prog gl DS 6 O18 0 27 [.agg (cel c s1 s2)] [] = some (.agg [.int .i64 (q_lo (q_cx c)), .int .i64 (q_lo (q_cy c)), .int .i64 (q_hi (q_cx c)), .int .i64 (q_hi (q_cy c))], []) := by
  obtain ⟨h3, h4, h5, h6, h7⟩ := h
  rw [fr_raw]
  have w1 : W (2 * c 3) = 2 * c 3 := W_id (by omega) (by omega)
  have w2 : W (2 * c 4) = 2 * c 4 := W_id (by omega) (by omega)
  have w3 : W (2 * c 3 + c 5) = 2 * c 3 + c 5 := W_id (by omega) (by omega)
  have w4 : W (2 * c 4 + c 6) = 2 * c 4 + c 6 := W_id (by omega) (by omega)
  have w5 : W (c 3 + c 5) = c 3 + c 5 := W_id (by omega) (by omega)
  have w6 : W (c 4 + c 6) = c 4 + c 6 := W_id (by omega) (by omega)
  rw [w1, w2, w3, w4, w5, w6]
  have t1 : q_small 1000000000000 (c 3) = true := small_iff.2 (by omega)
  have t2 : q_small 1000000000000 (c 4) = true := small_iff.2 (by omega)
  have t3 : q_small 1000000000000 (2 * c 3 + c 5) = true := small_iff.2 (by omega)
  have t4 : q_small 1000000000000 (2 * c 4 + c 6) = true := small_iff.2 (by omega)
  have t5 : q_small 900000 (c 7) = true := small_iff.2 (by omega)
  have t6 : q_small 1000000000000 (c 3 + c 5) = true := small_iff.2 (by omega)
  have t7 : q_small 1000000000000 (c 4 + c 6) = true := small_iff.2 (by omega)
  rw [t1, t2, t3, t4, t5, t6, t7]
  simp only [Bool.and_self, ↓reduceIte, gt_iff_lt, bmin', Int.lt_irrefl, decide_false, cond_false]
  have m : ∀ {a b : Int}, (bif decide (b < a) then a else b) = max b a := fun {a b} => by by_cases h : b < a <;> simp [h] <;> omega
  simp only [m]
  rfl
def q_c10 (c0 c1 c2 c3 c4 c5 c6 c7 c8 c9 : Int) : Nat → Int := fun j => [c0, c1, c2, c3, c4, c5, c6, c7, c8, c9].getD j 0
theorem c10_cx (c : Nat → Int) : q_cx (q_c10 (c 0) (c 1) (c 2) (c 3) (c 4) (c 5) (c 6) (c 7) (c 8) (c 9)) = q_cx c := by
  funext k
  rcases k with _ | _ | _ | k <;> rfl
theorem c10_cy (c : Nat → Int) : q_cy (q_c10 (c 0) (c 1) (c 2) (c 3) (c 4) (c 5) (c 6) (c 7) (c 8) (c 9)) = q_cy c := by
  funext k
  rcases k with _ | _ | _ | k <;> rfl
noncomputable def O19 : Orac := addM 27 (fun nb vs H => match nb, vs, H with
  | 0, [.agg [.int .i64 c0, .int .i64 c1, .int .i64 c2, .int .i64 c3, .int .i64 c4, .int .i64 c5, .int .i64 c6, .int .i64 c7, .int .i64 c8, .int .i64 c9, .str s1, .str s2]], [] => some (q_dec (q_shP (q_c10 c0 c1 c2 c3 c4 c5 c6 c7 c8 c9)), .agg [.int .i64 (q_lo (q_cx (q_c10 c0 c1 c2 c3 c4 c5 c6 c7 c8 c9))), .int .i64 (q_lo (q_cy (q_c10 c0 c1 c2 c3 c4 c5 c6 c7 c8 c9))), .int .i64 (q_hi (q_cx (q_c10 c0 c1 c2 c3 c4 c5 c6 c7 c8 c9))), .int .i64 (q_hi (q_cy (q_c10 c0 c1 c2 c3 c4 c5 c6 c7 c8 c9)))], [])
  | _, _, _ => none) O18
theorem sO19 : Sound prog gl O19 := add_ok (D := DS) sO18 sO18 mo (fun nb vs H v H' h => by
  split at h
  · rename_i c0 c1 c2 c3 c4 c5 c6 c7 c8 c9 s1 s2
    simp only [Option.some.injEq, Prod.mk.injEq] at h
    obtain ⟨h1, h2, h3⟩ := h
    subst h2 h3
    exact ⟨6, fr_eq (q_c10 c0 c1 c2 c3 c4 c5 c6 c7 c8 c9) s1 s2 (q_dec_iff.1 h1)⟩
  · cases h)
theorem ex_raw (c : Nat → Int) (s1 s2 : ByteArray) (a : Int) : callF prog gl DS 6 O19 0 24 [.agg (cel c s1 s2), i64 a] [] = (if (q_dec (q_shP (q_c10 (c (0 : Nat)) (c (1 : Nat)) (c (2 : Nat)) (c (3 : Nat)) (c (4 : Nat)) (c (5 : Nat)) (c (6 : Nat)) (c (7 : Nat)) (c (8 : Nat)) (c (9 : Nat))))) = true then (if (a == (0 : Int)) = true then (some ((PV.tup [i64 ((q_lo (q_cx (q_c10 (c (0 : Nat)) (c (1 : Nat)) (c (2 : Nat)) (c (3 : Nat)) (c (4 : Nat)) (c (5 : Nat)) (c (6 : Nat)) (c (7 : Nat)) (c (8 : Nat)) (c (9 : Nat)))))), i64 ((q_hi (q_cx (q_c10 (c (0 : Nat)) (c (1 : Nat)) (c (2 : Nat)) (c (3 : Nat)) (c (4 : Nat)) (c (5 : Nat)) (c (6 : Nat)) (c (7 : Nat)) (c (8 : Nat)) (c (9 : Nat))))))], []))) else (some ((PV.tup [i64 ((q_lo (q_cy (q_c10 (c (0 : Nat)) (c (1 : Nat)) (c (2 : Nat)) (c (3 : Nat)) (c (4 : Nat)) (c (5 : Nat)) (c (6 : Nat)) (c (7 : Nat)) (c (8 : Nat)) (c (9 : Nat)))))), i64 ((q_hi (q_cy (q_c10 (c (0 : Nat)) (c (1 : Nat)) (c (2 : Nat)) (c (3 : Nat)) (c (4 : Nat)) (c (5 : Nat)) (c (6 : Nat)) (c (7 : Nat)) (c (8 : Nat)) (c (9 : Nat))))))], [])))) else none) := by kernel_rfl
/-- A shape's range along an axis. -/
def q_el (c : Nat → Int) (a : Int) : Int := if a = 0 then q_lo (q_cx c) else q_lo (q_cy c)
def q_eh (c : Nat → Int) (a : Int) : Int := if a = 0 then q_hi (q_cx c) else q_hi (q_cy c)
theorem ex_eq (c : Nat → Int) (s1 s2 : ByteArray) (a : Int) (h : q_shP c) : callF prog gl DS 6 O19 0 24 [.agg (cel c s1 s2), i64 a] [] = some (.tup [i64 (q_el c a), i64 (q_eh c a)], []) := by
  have h' : q_shP (q_c10 (c 0) (c 1) (c 2) (c 3) (c 4) (c 5) (c 6) (c 7) (c 8) (c 9)) := h
  rw [ex_raw, if_pos (q_dec_iff.2 h'), c10_cx, c10_cy]
  unfold q_el q_eh
  by_cases e : a = 0
  · rw [if_pos (by simpa using e), if_pos e, if_pos e]
  · rw [if_neg (by simpa using e), if_neg e, if_neg e]
noncomputable def O20 : Orac := addM 24 (fun nb vs H => match nb, vs, H with
  | 0, [.agg [.int .i64 c0, .int .i64 c1, .int .i64 c2, .int .i64 c3, .int .i64 c4, .int .i64 c5, .int .i64 c6, .int .i64 c7, .int .i64 c8, .int .i64 c9, .str s1, .str s2], .one (.int .i64 a)], [] => some (q_dec (q_shP (q_c10 c0 c1 c2 c3 c4 c5 c6 c7 c8 c9)), .tup [i64 (q_el (q_c10 c0 c1 c2 c3 c4 c5 c6 c7 c8 c9) a), i64 (q_eh (q_c10 c0 c1 c2 c3 c4 c5 c6 c7 c8 c9) a)], [])
  | _, _, _ => none) O19
theorem sO20 : Sound prog gl O20 := add_ok (D := DS) sO19 sO19 mo (fun nb vs H v H' h => by
  split at h
  · rename_i c0 c1 c2 c3 c4 c5 c6 c7 c8 c9 s1 s2 a
    simp only [Option.some.injEq, Prod.mk.injEq] at h
    obtain ⟨h1, h2, h3⟩ := h
    subst h2 h3
    exact ⟨6, ex_eq (q_c10 c0 c1 c2 c3 c4 c5 c6 c7 c8 c9) s1 s2 a (q_dec_iff.1 h1)⟩
  · cases h)
/-! alike -/
abbrev pAl : List Bool := [true, true, true, true, false, true, false]
noncomputable abbrev yAl (fl : Nat) : En → Heap → (Exit → En → Heap → Option (PV × Heap)) → Option (PV × Heap) := bodyAt prog gl O20 DS f23 3 0 fl pAl
noncomputable abbrev kAl (fl : Nat) := kAt prog gl O20 DS f23 3 0 fl pAl
theorem al_pre (fl n m : Nat) (row r2 : Nat → Nat → PS) (a : Int) : callF prog gl DS fl O20 0 23 [.one (.view n 12 row), .one (.view m 1 r2), i64 a] [] = (if (q_dec (q_isRw row ∧ n ≤ (100000 : Nat))) = true then (if (q_chk n (q_nu n row) != (0 : Int)) = true then (some ((PV.tup [PV.one PS.nils, i64 ((q_chk n (q_nu n row)))], []))) else (if (decide ((↑m : Int) < a)) = true then (some ((PV.tup [PV.one PS.nils, i64 ((7 : Int))], []))) else (rounds (yAl fl) (kAl fl) fl ([((24 : Nat), none, i64 ((0 : Int))), ((23 : Nat), none, i64 ((↑m : Int))), ((22 : Nat), none, PV.one (PS.view m (1 : Nat) r2)), ((9 : Nat), none, PV.one PS.nils), ((8 : Nat), none, i64 ((q_chk n (q_nu n row)))), ((7 : Nat), none, i64 ((0 : Int))), ((6 : Nat), none, PV.one PS.nils), ((0 : Nat), none, PV.one (PS.view n (12 : Nat) row)), ((1 : Nat), none, PV.one (PS.view m (1 : Nat) r2)), ((2 : Nat), none, i64 (a))]) ([])))) else none) := by kernel_rfl
end Go.Proofs.YtgipgiejdbhpkaaDoor.Sh
