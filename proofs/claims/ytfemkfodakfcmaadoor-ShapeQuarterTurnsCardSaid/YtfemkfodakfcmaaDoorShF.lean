import Derived.Test.YtfemkfodakfcmaaDoorShE
namespace Go.Proofs.YtfemkfodakfcmaaDoor.Sh
open Go Go.RowKit Go.Proofs.YtfemkfodakfcmaaDoor.Ev Go.Proofs.Tryd
set_option maxRecDepth 100000
/-- What is named as a group is one. -/
def Grp (g : Nat → Nat → Int) (p : Int) : Prop := (∀ i : Nat, (i : Int) < p → g i 1 ≠ 0 → g (g i 1 - 1).toNat 2 = 5) ∧ (p ≠ 0 → g (p - 1).toNat 2 = 5)
theorem par_loop (fl n : Nat) (g : Nat → Nat → Int) (sx : Nat → Nat → ByteArray) (jx : Nat → Nat → PS) (a : PV) : ∀ (k m : Nat) (d : Int) (c : Nat → Int) (s1 s2 : ByteArray), Std n g (c 1) → Grp g (c 1) → c 1 ≤ k → k < m → 0 ≤ d → d + k ≤ 15 →
    rounds (bodyAt prog gl O8 noD f37 2 0 fl pPar) (kAt prog gl O8 noD f37 2 0 fl pPar) m (hPar n (rwj g sx jx) d a) [(3, .box (cel c s1 s2))] = some (i64 0, []) := by
  intro k
  induction k with
  | zero =>
    intro m d c s1 s2 hS hG hp hm hd hd2
    obtain ⟨m, rfl⟩ : ∃ m', m = m' + 1 := ⟨m - 1, by omega⟩
    have h0 : c 1 = 0 := by have := hS.2.1; omega
    refine (par_step fl m n g sx jx d a c s1 s2 _).trans ((if_neg (by simpa using h0)).trans ?_)
    kernel_rfl
  | succ k ih =>
    intro m d c s1 s2 hS hG hp hm hd hd2
    obtain ⟨m, rfl⟩ : ∃ m', m = m' + 1 := ⟨m - 1, by omega⟩
    by_cases h0 : c 1 = 0
    · rw [par_step, if_neg (by simpa using h0)]
      kernel_rfl
    · obtain ⟨hn, hp0, hpn, hg⟩ := hS
      obtain ⟨hG1, hG2⟩ := hG
      have hi : (((c 1 - 1).toNat : Nat) : Int) = c 1 - 1 := Int.toNat_of_nonneg (by omega)
      have hf : q_find n g (c 1) = ((c 1 - 1).toNat : Nat) := find_at (by omega) (fun q hq => by rw [(hg q (by omega)).1]; omega) (by rw [(hg _ (by omega)).1]; omega)
      have hk5 := hG2 h0
      rw [par_step, if_pos (by simpa using h0), if_neg (by simp <;> omega), if_pos (by rw [isRw_rwj, Nat.ble_eq_true_of_le (by omega : n ≤ 1000000)]; rfl), find_rwj, hf, if_neg (by simp <;> omega), chk_true (by simp <;> omega), Int.toNat_natCast, if_neg (by simpa using hk5), chk_true (by simp <;> omega)]
      obtain ⟨g0, g1, g1', g3, g7, g7'⟩ := hg (c 1 - 1).toNat (by omega)
      rw [W_id (n := d + 1) (by omega) (by omega)]
      exact ih m (d + 1) (fun j => g (c 1 - 1).toNat j) (sx (c 1 - 1).toNat 10) (sx (c 1 - 1).toNat 11) ⟨hn, g1, by omega, fun i hi => hg i (by omega)⟩ ⟨fun i hi => hG1 i (by omega), fun hne => hG1 _ (by omega) hne⟩ (by omega) (by omega) (by omega) (by omega)
def q_parP (n : Nat) (row : Nat → Nat → PS) (p : Int) : Prop := q_isRw row ∧ Std n (fun i j => q_gi (row i j)) p ∧ Grp (fun i j => q_gi (row i j)) p
theorem par_eq (n : Nat) (row : Nat → Nat → PS) (c : Nat → Int) (s1 s2 : ByteArray) (h : q_parP n row (c 1)) : callF prog gl noD 11 O8 0 37 [.one (.view n 12 row), .agg (cel c s1 s2)] [] = some (i64 0, []) := by
  refine (par_pre 11 n row c s1 s2).trans ?_
  obtain ⟨h1, h2, h3⟩ := h
  obtain ⟨sx, jx, hrow⟩ := isRw_gi h1
  generalize (fun i j => q_gi (row i j)) = g at *
  subst hrow
  have hn := h2.1
  have hp := h2.2.2.1
  exact par_loop 11 n g sx jx _ 10 11 1 c s1 s2 h2 h3 (by omega) (by omega) (by omega) (by omega)
noncomputable def aPar : Nat → List PV → Heap → Option (Bool × PV × Heap)
  | 0, [.one (.view n 12 row), .agg [.int .i64 _, .int .i64 c1, .int .i64 _, .int .i64 _, .int .i64 _, .int .i64 _, .int .i64 _, .int .i64 _, .int .i64 _, .int .i64 _, .str _, .str _]], [] => some (q_dec (q_parP n row c1), i64 0, [])
  | _, _, _ => none
noncomputable def O9 : Orac := addM 37 aPar O8
theorem sO9 : Sound prog gl O9 := add_ok (D := noD) sO8 sO8 mo (fun nb vs H v H' h => by
  unfold aPar at h
  split at h
  · rename_i n row c0 c1 c2 c3 c4 c5 c6 c7 c8 c9 s1 s2
    obtain ⟨h1, h2, h3⟩ : q_dec (q_parP n row c1) = true ∧ i64 0 = v ∧ [] = H' := by simpa using h
    subst h2 h3
    exact ⟨11, par_eq n row (fun j => match j with | 0 => c0 | 1 => c1 | 2 => c2 | 3 => c3 | 4 => c4 | 5 => c5 | 6 => c6 | 7 => c7 | 8 => c8 | _ => c9) s1 s2 (q_dec_iff.1 h1)⟩
  · cases h)
/-! Check -/
abbrev pChk : List Bool := [true, true, false, true, false]
abbrev hChk (n : Nat) (row : Nat → Nat → PS) (i : Int) : En := [(13, none, i64 i), (12, none, i64 n), (11, none, .one (.view n 12 row)), (2, none, i64 0), (0, none, .one (.view n 12 row))]
theorem chk_pre (fl n : Nat) (row : Nat → Nat → PS) : callF prog gl noD fl O9 0 27 [.one (.view n 12 row)] [] = (if (decide (↑n > (1000 : Int))) = true then (some ((i64 ((3 : Int)), []))) else (rounds (bodyAt prog gl O9 noD f27 1 0 fl pChk) (kAt prog gl O9 noD f27 1 0 fl pChk) fl ([((13 : Nat), none, i64 ((0 : Int))), ((12 : Nat), none, i64 (↑n)), ((11 : Nat), none, PV.one (PS.view n (12 : Nat) row)), ((2 : Nat), none, i64 ((0 : Int))), ((0 : Nat), none, PV.one (PS.view n (12 : Nat) row))]) ([]))) := by kernel_rfl
abbrev rTw : List Bool := [true, true, false, false, true, true, true, true, true, false, true, false]
abbrev pTw : List Bool := pChk ++ (false :: rTw)
/-- What follows behind the inner loop. -/
noncomputable def kTw (fl m n : Nat) (row : Nat → Nat → PS) (i : Int) (K : Exit → En → Heap → Option (PV × Heap)) : Exit → En → Heap → Option (PV × Heap) := kontAt prog gl O9 noD (liveF f27) (0 + nOf f27 1) 0 (nOf f27 1) fl rTw (codeAt (pChk ++ [false]) (bodyOf f27)) (kRound (bodyAt prog gl O9 noD f27 1 0 fl pChk) K m (hChk n row i) [])
theorem chk_step (fl m n : Nat) (g : Nat → Nat → Int) (sx : Nat → Nat → ByteArray) (jx : Nat → Nat → PS) (i : Int) (K : Exit → En → Heap → Option (PV × Heap)) : rounds (bodyAt prog gl O9 noD f27 1 0 fl pChk) K (m + 1) (hChk n (rwj g sx jx) i) [] = (if (decide (i < ↑n)) = true then (chk true (decide ((0 : Int) ≤ i) && decide (i < ↑n)) (if (bif decide (g i.toNat (2 : Nat) < (0 : Int)) then true else decide (g i.toNat (2 : Nat) > (7 : Int))) = true then (K (Exit.ret) ([((2 : Nat), none, i64 ((8 : Int))), ((3 : Nat), none, i64 (i)), ((4 : Nat), none, PV.one (PS.ptr (4 : Nat) (0 : Nat))), ((13 : Nat), none, i64 (i)), ((12 : Nat), none, i64 (↑n)), ((11 : Nat), none, PV.one (PS.view n (12 : Nat) (rwj g sx jx))), ((0 : Nat), none, PV.one (PS.view n (12 : Nat) (rwj g sx jx)))]) ([((4 : Nat), OB.box [PS.int IntKind.i64 (g i.toNat (0 : Nat)), PS.int IntKind.i64 (g i.toNat (1 : Nat)), PS.int IntKind.i64 (g i.toNat (2 : Nat)), PS.int IntKind.i64 (g i.toNat (3 : Nat)), PS.int IntKind.i64 (g i.toNat (4 : Nat)), PS.int IntKind.i64 (g i.toNat (5 : Nat)), PS.int IntKind.i64 (g i.toNat (6 : Nat)), PS.int IntKind.i64 (g i.toNat (7 : Nat)), PS.int IntKind.i64 (g i.toNat (8 : Nat)), PS.int IntKind.i64 (g i.toNat (9 : Nat)), PS.str (sx i.toNat (10 : Nat)), PS.str (sx i.toNat (11 : Nat))])])) else (if (bif bif bif bif bif bif bif decide (g i.toNat (0 : Nat) < (1 : Int)) then true else decide (g i.toNat (0 : Nat) > (1073741824 : Int)) then true else decide (g i.toNat (1 : Nat) < (0 : Int)) then true else decide (g i.toNat (1 : Nat) > (1073741824 : Int)) then true else decide (g i.toNat (8 : Nat) < (0 : Int)) then true else decide (g i.toNat (8 : Nat) > (1073741824 : Int)) then true else decide (g i.toNat (9 : Nat) < (0 : Int)) then true else decide (g i.toNat (9 : Nat) > (1073741824 : Int))) = true then (K (Exit.ret) ([((2 : Nat), none, i64 ((2 : Int))), ((3 : Nat), none, i64 (i)), ((4 : Nat), none, PV.one (PS.ptr (4 : Nat) (0 : Nat))), ((13 : Nat), none, i64 (i)), ((12 : Nat), none, i64 (↑n)), ((11 : Nat), none, PV.one (PS.view n (12 : Nat) (rwj g sx jx))), ((0 : Nat), none, PV.one (PS.view n (12 : Nat) (rwj g sx jx)))]) ([((4 : Nat), OB.box [PS.int IntKind.i64 (g i.toNat (0 : Nat)), PS.int IntKind.i64 (g i.toNat (1 : Nat)), PS.int IntKind.i64 (g i.toNat (2 : Nat)), PS.int IntKind.i64 (g i.toNat (3 : Nat)), PS.int IntKind.i64 (g i.toNat (4 : Nat)), PS.int IntKind.i64 (g i.toNat (5 : Nat)), PS.int IntKind.i64 (g i.toNat (6 : Nat)), PS.int IntKind.i64 (g i.toNat (7 : Nat)), PS.int IntKind.i64 (g i.toNat (8 : Nat)), PS.int IntKind.i64 (g i.toNat (9 : Nat)), PS.str (sx i.toNat (10 : Nat)), PS.str (sx i.toNat (11 : Nat))])])) else (if (bif bif bif bif bif bif bif bif bif decide (g i.toNat (3 : Nat) < (-1048576 : Int)) then true else decide (g i.toNat (3 : Nat) > (1048576 : Int)) then true else decide (g i.toNat (4 : Nat) < (-1048576 : Int)) then true else decide (g i.toNat (4 : Nat) > (1048576 : Int)) then true else decide (g i.toNat (5 : Nat) < (0 : Int)) then true else decide (g i.toNat (5 : Nat) > (1048576 : Int)) then true else decide (g i.toNat (6 : Nat) < (0 : Int)) then true else decide (g i.toNat (6 : Nat) > (1048576 : Int)) then true else decide (g i.toNat (7 : Nat) < (0 : Int)) then true else decide (g i.toNat (7 : Nat) ≥ (3600 : Int))) = true then (K (Exit.ret) ([((2 : Nat), none, i64 ((2 : Int))), ((3 : Nat), none, i64 (i)), ((4 : Nat), none, PV.one (PS.ptr (4 : Nat) (0 : Nat))), ((13 : Nat), none, i64 (i)), ((12 : Nat), none, i64 (↑n)), ((11 : Nat), none, PV.one (PS.view n (12 : Nat) (rwj g sx jx))), ((0 : Nat), none, PV.one (PS.view n (12 : Nat) (rwj g sx jx)))]) ([((4 : Nat), OB.box [PS.int IntKind.i64 (g i.toNat (0 : Nat)), PS.int IntKind.i64 (g i.toNat (1 : Nat)), PS.int IntKind.i64 (g i.toNat (2 : Nat)), PS.int IntKind.i64 (g i.toNat (3 : Nat)), PS.int IntKind.i64 (g i.toNat (4 : Nat)), PS.int IntKind.i64 (g i.toNat (5 : Nat)), PS.int IntKind.i64 (g i.toNat (6 : Nat)), PS.int IntKind.i64 (g i.toNat (7 : Nat)), PS.int IntKind.i64 (g i.toNat (8 : Nat)), PS.int IntKind.i64 (g i.toNat (9 : Nat)), PS.str (sx i.toNat (10 : Nat)), PS.str (sx i.toNat (11 : Nat))])])) else (if (bif g i.toNat (2 : Nat) != (6 : Int) then bif g i.toNat (8 : Nat) != (0 : Int) then true else g i.toNat (9 : Nat) != (0 : Int) else false) = true then (K (Exit.ret) ([((2 : Nat), none, i64 ((4 : Int))), ((3 : Nat), none, i64 (i)), ((4 : Nat), none, PV.one (PS.ptr (4 : Nat) (0 : Nat))), ((13 : Nat), none, i64 (i)), ((12 : Nat), none, i64 (↑n)), ((11 : Nat), none, PV.one (PS.view n (12 : Nat) (rwj g sx jx))), ((0 : Nat), none, PV.one (PS.view n (12 : Nat) (rwj g sx jx)))]) ([((4 : Nat), OB.box [PS.int IntKind.i64 (g i.toNat (0 : Nat)), PS.int IntKind.i64 (g i.toNat (1 : Nat)), PS.int IntKind.i64 (g i.toNat (2 : Nat)), PS.int IntKind.i64 (g i.toNat (3 : Nat)), PS.int IntKind.i64 (g i.toNat (4 : Nat)), PS.int IntKind.i64 (g i.toNat (5 : Nat)), PS.int IntKind.i64 (g i.toNat (6 : Nat)), PS.int IntKind.i64 (g i.toNat (7 : Nat)), PS.int IntKind.i64 (g i.toNat (8 : Nat)), PS.int IntKind.i64 (g i.toNat (9 : Nat)), PS.str (sx i.toNat (10 : Nat)), PS.str (sx i.toNat (11 : Nat))])])) else (chk true (true && (decide ((0 : Int) ≤ i) && decide (i ≤ ↑n))) (rounds (bodyAt prog gl O9 noD f27 1 0 fl pTw) (kTw fl m n (rwj g sx jx) i K) fl ([((129 : Nat), none, i64 ((0 : Int))), ((128 : Nat), none, i64 (↑(i.toNat - (0 : Nat)))), ((127 : Nat), none, PV.one (PS.view (i.toNat - (0 : Nat)) (12 : Nat) (subRow none (0 : Nat) (rwj g sx jx)))), ((3 : Nat), none, i64 (i)), ((4 : Nat), none, PV.one (PS.ptr (4 : Nat) (0 : Nat))), ((13 : Nat), none, i64 (i)), ((12 : Nat), none, i64 (↑n)), ((11 : Nat), none, PV.one (PS.view n (12 : Nat) (rwj g sx jx))), ((2 : Nat), none, i64 ((0 : Int))), ((0 : Nat), none, PV.one (PS.view n (12 : Nat) (rwj g sx jx)))]) ([((4 : Nat), OB.box [PS.int IntKind.i64 (g i.toNat (0 : Nat)), PS.int IntKind.i64 (g i.toNat (1 : Nat)), PS.int IntKind.i64 (g i.toNat (2 : Nat)), PS.int IntKind.i64 (g i.toNat (3 : Nat)), PS.int IntKind.i64 (g i.toNat (4 : Nat)), PS.int IntKind.i64 (g i.toNat (5 : Nat)), PS.int IntKind.i64 (g i.toNat (6 : Nat)), PS.int IntKind.i64 (g i.toNat (7 : Nat)), PS.int IntKind.i64 (g i.toNat (8 : Nat)), PS.int IntKind.i64 (g i.toNat (9 : Nat)), PS.str (sx i.toNat (10 : Nat)), PS.str (sx i.toNat (11 : Nat))])])))))))) else (K (Exit.exit (0 : Nat)) ([((13 : Nat), none, i64 (i)), ((12 : Nat), none, i64 (↑n)), ((11 : Nat), none, PV.one (PS.view n (12 : Nat) (rwj g sx jx))), ((2 : Nat), none, i64 ((0 : Int))), ((0 : Nat), none, PV.one (PS.view n (12 : Nat) (rwj g sx jx)))]) ([]))) := by kernel_rfl
end Go.Proofs.YtfemkfodakfcmaaDoor.Sh
