import Derived.Test.YtobfnncpjkeloaaMsC
namespace Go.Proofs.Ytobfnncpjkeloaa.Sh
open Go Go.RowKit Go.Proofs.Ytobfnncpjkeloaa.Ev Go.Proofs.Try
set_option maxRecDepth 1000000
set_option linter.unusedVariables false
/-! parents -/
abbrev pPar : List Bool := [true, false, true, false]
abbrev hPar (n : Nat) (row : Nat → Nat → PS) (d : Int) (a : PV) : En := [(5, none, i64 d), (4, none, i64 0), (3, none, .one (.ptr 3 0)), (0, none, .one (.view n 12 row)), (1, none, a)]
noncomputable abbrev yPar (fl : Nat) : En → Heap → (Exit → En → Heap → Option (PV × Heap)) → Option (PV × Heap) := bodyAt prog gl O6 noD f42 2 0 fl pPar
noncomputable abbrev kPar (fl : Nat) := kAt prog gl O6 noD f42 2 0 fl pPar
theorem par_pre (fl n : Nat) (row : Nat → Nat → PS) (c : Nat → Int) (s1 s2 : ByteArray) : callF prog gl noD fl O6 0 42 [.one (.view n 12 row), .agg (cel c s1 s2)] [] = (rounds (yPar fl) (kPar fl) fl ([((5 : Nat), none, i64 ((1 : Int))), ((4 : Nat), none, i64 ((0 : Int))), ((3 : Nat), none, PV.one (PS.ptr (3 : Nat) (0 : Nat))), ((0 : Nat), none, PV.one (PS.view n (12 : Nat) row)), ((1 : Nat), none, PV.agg [PS.int IntKind.i64 (c (0 : Nat)), PS.int IntKind.i64 (c (1 : Nat)), PS.int IntKind.i64 (c (2 : Nat)), PS.int IntKind.i64 (c (3 : Nat)), PS.int IntKind.i64 (c (4 : Nat)), PS.int IntKind.i64 (c (5 : Nat)), PS.int IntKind.i64 (c (6 : Nat)), PS.int IntKind.i64 (c (7 : Nat)), PS.int IntKind.i64 (c (8 : Nat)), PS.int IntKind.i64 (c (9 : Nat)), PS.str s1, PS.str s2])]) ([((3 : Nat), OB.box [PS.int IntKind.i64 (c (0 : Nat)), PS.int IntKind.i64 (c (1 : Nat)), PS.int IntKind.i64 (c (2 : Nat)), PS.int IntKind.i64 (c (3 : Nat)), PS.int IntKind.i64 (c (4 : Nat)), PS.int IntKind.i64 (c (5 : Nat)), PS.int IntKind.i64 (c (6 : Nat)), PS.int IntKind.i64 (c (7 : Nat)), PS.int IntKind.i64 (c (8 : Nat)), PS.int IntKind.i64 (c (9 : Nat)), PS.str s1, PS.str s2])])) := by kernel_rfl
theorem par_st (fl mm n : Nat) (g : Nat → Nat → Int) (sx : Nat → Nat → ByteArray) (jx : Nat → Nat → PS) (d : Int) (a : PV) (c : Nat → Int) (s1 s2 : ByteArray) : rounds (yPar fl) (kPar fl) (mm + 1) (hPar n (rwj g sx jx) d a) [(3, .box (cel c s1 s2))] = (if (c (1 : Nat) != (0 : Int)) = true then (if (d == (20 : Int)) = true then (some ((i64 ((22 : Int)), []))) else (if (q_dec (q_isRw (rwj g sx jx) ∧ n ≤ (100000 : Nat))) = true then (if (decide (q_fd n (q_nu n (rwj g sx jx)) (c (1 : Nat)) < (0 : Int))) = true then (some ((i64 ((7 : Int)), []))) else (chk true (decide ((0 : Int) ≤ q_fd n (q_nu n (rwj g sx jx)) (c (1 : Nat))) && decide (q_fd n (q_nu n (rwj g sx jx)) (c (1 : Nat)) < (↑n : Int))) (if (g (q_fd n (q_nu n (rwj g sx jx)) (c (1 : Nat))).toNat (2 : Nat) != (5 : Int)) = true then (some ((i64 ((8 : Int)), []))) else (chk true (decide ((0 : Int) ≤ q_fd n (q_nu n (rwj g sx jx)) (c (1 : Nat))) && decide (q_fd n (q_nu n (rwj g sx jx)) (c (1 : Nat)) < (↑n : Int))) (rounds (yPar fl) (kPar fl) mm ([((5 : Nat), none, i64 ((W (d + (1 : Int))))), ((4 : Nat), none, i64 ((0 : Int))), ((3 : Nat), none, PV.one (PS.ptr (3 : Nat) (0 : Nat))), ((0 : Nat), none, PV.one (PS.view n (12 : Nat) (rwj g sx jx))), ((1 : Nat), none, a)]) ([((3 : Nat), OB.box [PS.int IntKind.i64 (g (q_fd n (q_nu n (rwj g sx jx)) (c (1 : Nat))).toNat (0 : Nat)), PS.int IntKind.i64 (g (q_fd n (q_nu n (rwj g sx jx)) (c (1 : Nat))).toNat (1 : Nat)), PS.int IntKind.i64 (g (q_fd n (q_nu n (rwj g sx jx)) (c (1 : Nat))).toNat (2 : Nat)), PS.int IntKind.i64 (g (q_fd n (q_nu n (rwj g sx jx)) (c (1 : Nat))).toNat (3 : Nat)), PS.int IntKind.i64 (g (q_fd n (q_nu n (rwj g sx jx)) (c (1 : Nat))).toNat (4 : Nat)), PS.int IntKind.i64 (g (q_fd n (q_nu n (rwj g sx jx)) (c (1 : Nat))).toNat (5 : Nat)), PS.int IntKind.i64 (g (q_fd n (q_nu n (rwj g sx jx)) (c (1 : Nat))).toNat (6 : Nat)), PS.int IntKind.i64 (g (q_fd n (q_nu n (rwj g sx jx)) (c (1 : Nat))).toNat (7 : Nat)), PS.int IntKind.i64 (g (q_fd n (q_nu n (rwj g sx jx)) (c (1 : Nat))).toNat (8 : Nat)), PS.int IntKind.i64 (g (q_fd n (q_nu n (rwj g sx jx)) (c (1 : Nat))).toNat (9 : Nat)), PS.str (sx (q_fd n (q_nu n (rwj g sx jx)) (c (1 : Nat))).toNat (10 : Nat)), PS.str (sx (q_fd n (q_nu n (rwj g sx jx)) (c (1 : Nat))).toNat (11 : Nat))])])))))) else none)) else (some ((i64 ((0 : Int)), [])))) := by kernel_rfl
/-- What parents answers. -/
def q_pe (n : Nat) (g : Nat → Nat → Int) : Nat → Int → Int → Int
  | 0, _, _ => 22
  | f + 1, p, d => if p = 0 then 0 else if d = 20 then 22 else if q_fd n g p < 0 then 7 else if g (q_fd n g p).toNat 2 ≠ 5 then 8 else q_pe n g f (g (q_fd n g p).toNat 1) (d + 1)
theorem fd_rng (n : Nat) (g : Nat → Nat → Int) (x : Int) : -1 ≤ q_fd n g x ∧ q_fd n g x < n := by
  rcases fd_spec n g x with ⟨h, _⟩ | ⟨k, h, e, _⟩ <;> omega
theorem pe_cg {n : Nat} {g g' : Nat → Nat → Int} (h : ∀ k j, k < n → j < 10 → g k j = g' k j) : ∀ (f : Nat) (p d : Int), q_pe n g f p d = q_pe n g' f p d := by
  intro f
  induction f with
  | zero => intro p d; rfl
  | succ f ih =>
    intro p d
    have e : q_fd n g p = q_fd n g' p := fd_cg (fun k hk => h k 0 hk (by omega))
    unfold q_pe
    rw [e]
    by_cases h1 : q_fd n g' p < 0
    · rw [if_pos h1, if_pos h1]
    · rw [if_neg h1, if_neg h1]
      have hr := fd_rng n g' p
      rw [h _ 2 (by omega) (by omega), h _ 1 (by omega) (by omega), ih]
theorem par_loop (fl n : Nat) (hn : n ≤ 100000) (g : Nat → Nat → Int) (sx : Nat → Nat → ByteArray) (jx : Nat → Nat → PS) (a : PV) : ∀ (f m : Nat) (d : Int) (c : Nat → Int) (s1 s2 : ByteArray), d + f = 21 → 1 ≤ f ∧ f ≤ 20 → f ≤ m → rounds (yPar fl) (kPar fl) m (hPar n (rwj g sx jx) d a) [(3, .box (cel c s1 s2))] = some (i64 (q_pe n g f (c 1) d), []) := by
  intro f
  induction f with
  | zero => intro m d c s1 s2 _ h; omega
  | succ f ih =>
    intro m d c s1 s2 hd hf hm
    obtain ⟨m, rfl⟩ : ∃ m', m = m' + 1 := ⟨m - 1, by omega⟩
    have e : q_fd n (q_nu n (rwj g sx jx)) (c 1) = q_fd n g (c 1) := by rw [nu_rwj]; exact fd_cg (fun k hk => cutG_in hk (by omega))
    rw [par_st, e]
    unfold q_pe
    by_cases h0 : c 1 = 0
    · rw [if_neg (by simpa using h0), if_pos h0]
    · rw [if_pos (by simpa using h0), if_neg h0]
      by_cases h20 : d = 20
      · rw [if_pos (by simpa using h20), if_pos h20]
      · rw [if_neg (by simpa using h20), if_neg h20, if_pos (q_dec_iff.2 ⟨⟨g, sx, jx, rfl⟩, hn⟩)]
        have hr := fd_rng n g (c 1)
        by_cases h1 : q_fd n g (c 1) < 0
        · rw [if_pos (by simpa using h1), if_pos h1]
        · rw [if_neg (by simpa using h1), if_neg h1, chk_true (by simp <;> omega)]
          by_cases h2 : g (q_fd n g (c 1)).toNat 2 = 5
          · rw [if_neg (by simpa using h2), if_neg (by simpa using h2), chk_true (by simp <;> omega), W_id (n := d + 1) (by omega) (by omega)]
            exact ih m (d + 1) (fun j => g (q_fd n g (c 1)).toNat j) (sx (q_fd n g (c 1)).toNat 10) (sx (q_fd n g (c 1)).toNat 11) (by omega) (by omega) (by omega)
          · rw [if_pos (by simpa using h2), if_pos h2]
theorem par_eq (n : Nat) (hn : n ≤ 100000) (g : Nat → Nat → Int) (sx : Nat → Nat → ByteArray) (jx : Nat → Nat → PS) (c : Nat → Int) (s1 s2 : ByteArray) : callF prog gl noD 20 O6 0 42 [.one (.view n 12 (rwj g sx jx)), .agg (cel c s1 s2)] [] = some (i64 (q_pe n g 20 (c 1) 1), []) := by
  rw [par_pre]
  exact par_loop 20 n hn g sx jx _ 20 20 1 c s1 s2 (by omega) (by omega) (by omega)
noncomputable def O7 : Orac := addM 42 (fun nb vs H => match nb, vs, H with
  | 0, [.one (.view n 12 row), .agg [.int .i64 c0, .int .i64 c1, .int .i64 c2, .int .i64 c3, .int .i64 c4, .int .i64 c5, .int .i64 c6, .int .i64 c7, .int .i64 c8, .int .i64 c9, .str s1, .str s2]], [] => some (q_dec (q_isRw row ∧ n ≤ 100000), i64 (q_pe n (q_nu n row) 20 c1 1), [])
  | _, _, _ => none) O6
theorem sO7 : Sound prog gl O7 := add_ok (D := noD) sO6 sO6 mo (fun nb vs H v H' h => by
  split at h
  · rename_i n row c0 c1 c2 c3 c4 c5 c6 c7 c8 c9 s1 s2
    obtain ⟨h1, h2, h3⟩ : q_dec (q_isRw row ∧ n ≤ 100000) = true ∧ i64 (q_pe n (q_nu n row) 20 c1 1) = v ∧ [] = H' := by simpa using h
    subst h2 h3
    obtain ⟨⟨g, sx, jx, rfl⟩, hn⟩ := q_dec_iff.1 h1
    rw [nu_rwj, pe_cg (g' := g) (fun k j hk hj => cutG_in hk hj)]
    exact ⟨20, par_eq n hn g sx jx (fun j => [c0, c1, c2, c3, c4, c5, c6, c7, c8, c9].getD j 0) s1 s2⟩
  · cases h)
/-! Check -/
abbrev pChk : List Bool := [true, true, false, true, false]
abbrev hChk (n : Nat) (row : Nat → Nat → PS) (i : Int) : En := [(13, none, i64 i), (12, none, i64 n), (11, none, .one (.view n 12 row)), (2, none, i64 0), (0, none, .one (.view n 12 row))]
abbrev rTw : List Bool := [true, true, false, false, true, true, true, true, true, false, true, false]
abbrev pTw : List Bool := pChk ++ (false :: rTw)
noncomputable abbrev yChk (fl : Nat) (p : List Bool) : En → Heap → (Exit → En → Heap → Option (PV × Heap)) → Option (PV × Heap) := bodyAt prog gl O7 noD f24 1 0 fl p
noncomputable abbrev kChk (fl : Nat) := kAt prog gl O7 noD f24 1 0 fl pChk
noncomputable def kTw (fl mm n : Nat) (row : Nat → Nat → PS) (i : Int) : Exit → En → Heap → Option (PV × Heap) := kontAt prog gl O7 noD (liveF f24) [] (0 + nOf f24 1 + 1) 0 (nOf f24 1) fl rTw (codeAt (pChk ++ [false]) (bodyOf f24)) (kRound (yChk fl pChk) (kChk fl) mm (hChk n row i) [])
abbrev hTw (n q : Nat) (row : Nat → Nat → PS) (i j : Int) : En := [(129, none, i64 j), (128, none, i64 q), (127, none, .one (.view q 12 row)), (3, none, i64 i), (4, none, .one (.ptr 4 0)), (13, none, i64 i), (12, none, i64 n), (11, none, .one (.view n 12 row)), (2, none, i64 0), (0, none, .one (.view n 12 row))]
theorem chk_pre (fl n : Nat) (row : Nat → Nat → PS) : callF prog gl noD fl O7 0 24 [.one (.view n 12 row)] [] = (if (decide ((↑n : Int) > (1000 : Int))) = true then (some ((i64 ((3 : Int)), []))) else (rounds (yChk fl pChk) (kChk fl) fl ([((13 : Nat), none, i64 ((0 : Int))), ((12 : Nat), none, i64 ((↑n : Int))), ((11 : Nat), none, PV.one (PS.view n (12 : Nat) row)), ((2 : Nat), none, i64 ((0 : Int))), ((0 : Nat), none, PV.one (PS.view n (12 : Nat) row))]) ([]))) := by kernel_rfl
theorem chk_st (fl mm n : Nat) (g : Nat → Nat → Int) (sx : Nat → Nat → ByteArray) (jx : Nat → Nat → PS) (i : Int) : rounds (yChk fl pChk) (kChk fl) (mm + 1) (hChk n (rwj g sx jx) i) [] = (if (decide (i < (↑n : Int))) = true then (chk true (decide ((0 : Int) ≤ i) && decide (i < (↑n : Int))) (if (bif decide (g i.toNat (2 : Nat) < (0 : Int)) then true else decide (g i.toNat (2 : Nat) > (7 : Int))) = true then (some ((i64 ((8 : Int)), []))) else (if (bif bif bif bif bif bif bif decide (g i.toNat (0 : Nat) < (1 : Int)) then true else decide (g i.toNat (0 : Nat) > (1073741824 : Int)) then true else decide (g i.toNat (1 : Nat) < (0 : Int)) then true else decide (g i.toNat (1 : Nat) > (1073741824 : Int)) then true else decide (g i.toNat (8 : Nat) < (0 : Int)) then true else decide (g i.toNat (8 : Nat) > (1073741824 : Int)) then true else decide (g i.toNat (9 : Nat) < (0 : Int)) then true else decide (g i.toNat (9 : Nat) > (1073741824 : Int))) = true then (some ((i64 ((2 : Int)), []))) else (if (bif bif bif bif bif bif bif bif bif decide (g i.toNat (3 : Nat) < (-1048576 : Int)) then true else decide (g i.toNat (3 : Nat) > (1048576 : Int)) then true else decide (g i.toNat (4 : Nat) < (-1048576 : Int)) then true else decide (g i.toNat (4 : Nat) > (1048576 : Int)) then true else decide (g i.toNat (5 : Nat) < (0 : Int)) then true else decide (g i.toNat (5 : Nat) > (1048576 : Int)) then true else decide (g i.toNat (6 : Nat) < (0 : Int)) then true else decide (g i.toNat (6 : Nat) > (1048576 : Int)) then true else decide (g i.toNat (7 : Nat) < (0 : Int)) then true else decide (g i.toNat (7 : Nat) ≥ (3600 : Int))) = true then (some ((i64 ((2 : Int)), []))) else (if (bif g i.toNat (2 : Nat) != (6 : Int) then bif g i.toNat (8 : Nat) != (0 : Int) then true else g i.toNat (9 : Nat) != (0 : Int) else false) = true then (some ((i64 ((4 : Int)), []))) else (chk true (true && (decide ((0 : Int) ≤ i) && decide (i ≤ (↑n : Int)))) (rounds (yChk fl pTw) (kTw fl mm n (rwj g sx jx) i) fl ([((129 : Nat), none, i64 ((0 : Int))), ((128 : Nat), none, i64 ((↑(i.toNat - (0 : Nat)) : Int))), ((127 : Nat), none, PV.one (PS.view (i.toNat - (0 : Nat)) (12 : Nat) (subRow none (0 : Nat) (rwj g sx jx)))), ((3 : Nat), none, i64 (i)), ((4 : Nat), none, PV.one (PS.ptr (4 : Nat) (0 : Nat))), ((13 : Nat), none, i64 (i)), ((12 : Nat), none, i64 ((↑n : Int))), ((11 : Nat), none, PV.one (PS.view n (12 : Nat) (rwj g sx jx))), ((2 : Nat), none, i64 ((0 : Int))), ((0 : Nat), none, PV.one (PS.view n (12 : Nat) (rwj g sx jx)))]) ([((4 : Nat), OB.box [PS.int IntKind.i64 (g i.toNat (0 : Nat)), PS.int IntKind.i64 (g i.toNat (1 : Nat)), PS.int IntKind.i64 (g i.toNat (2 : Nat)), PS.int IntKind.i64 (g i.toNat (3 : Nat)), PS.int IntKind.i64 (g i.toNat (4 : Nat)), PS.int IntKind.i64 (g i.toNat (5 : Nat)), PS.int IntKind.i64 (g i.toNat (6 : Nat)), PS.int IntKind.i64 (g i.toNat (7 : Nat)), PS.int IntKind.i64 (g i.toNat (8 : Nat)), PS.int IntKind.i64 (g i.toNat (9 : Nat)), PS.str (sx i.toNat (10 : Nat)), PS.str (sx i.toNat (11 : Nat))])])))))))) else (some ((i64 ((0 : Int)), [])))) := by kernel_rfl
theorem tw_st (fl mm m1 n q : Nat) (g : Nat → Nat → Int) (sx : Nat → Nat → ByteArray) (jx : Nat → Nat → PS) (i j : Int) (c : Nat → Int) (s1 s2 : ByteArray) : rounds (yChk fl pTw) (kTw fl mm n (rwj g sx jx) i) (m1 + 1) (hTw n q (rwj g sx jx) i j) [(4, .box (cel c s1 s2))] = (if (decide (j < (↑q : Int))) = true then (chk true (decide ((0 : Int) ≤ j) && decide (j < (↑q : Int))) (if (g j.toNat (0 : Nat) == c (0 : Nat)) = true then (some ((i64 ((6 : Int)), []))) else (rounds (yChk fl pTw) (kTw fl mm n (rwj g sx jx) i) m1 ([((129 : Nat), none, i64 ((W (j + (1 : Int))))), ((128 : Nat), none, i64 ((↑q : Int))), ((127 : Nat), none, PV.one (PS.view q (12 : Nat) (rwj g sx jx))), ((3 : Nat), none, i64 (i)), ((4 : Nat), none, PV.one (PS.ptr (4 : Nat) (0 : Nat))), ((13 : Nat), none, i64 (i)), ((12 : Nat), none, i64 ((↑n : Int))), ((11 : Nat), none, PV.one (PS.view n (12 : Nat) (rwj g sx jx))), ((2 : Nat), none, i64 ((0 : Int))), ((0 : Nat), none, PV.one (PS.view n (12 : Nat) (rwj g sx jx)))]) ([((4 : Nat), OB.box [PS.int IntKind.i64 (c (0 : Nat)), PS.int IntKind.i64 (c (1 : Nat)), PS.int IntKind.i64 (c (2 : Nat)), PS.int IntKind.i64 (c (3 : Nat)), PS.int IntKind.i64 (c (4 : Nat)), PS.int IntKind.i64 (c (5 : Nat)), PS.int IntKind.i64 (c (6 : Nat)), PS.int IntKind.i64 (c (7 : Nat)), PS.int IntKind.i64 (c (8 : Nat)), PS.int IntKind.i64 (c (9 : Nat)), PS.str s1, PS.str s2])])))) else (chk true (true && (decide ((0 : Int) ≤ i) && decide (i ≤ (↑n : Int)))) (if (q_dec (q_isRw (subRow none (0 : Nat) (rwj g sx jx)) ∧ i.toNat - (0 : Nat) ≤ (100000 : Nat))) = true then (if (q_pe (i.toNat - (0 : Nat)) (q_nu (i.toNat - (0 : Nat)) (subRow none (0 : Nat) (rwj g sx jx))) (20 : Nat) (c (1 : Nat)) (1 : Int) != (0 : Int)) = true then (some ((i64 ((q_pe (i.toNat - (0 : Nat)) (q_nu (i.toNat - (0 : Nat)) (subRow none (0 : Nat) (rwj g sx jx))) (20 : Nat) (c (1 : Nat)) (1 : Int))), []))) else (rounds (yChk fl pChk) (kChk fl) mm ([((13 : Nat), none, i64 ((W (i + (1 : Int))))), ((12 : Nat), none, i64 ((↑n : Int))), ((11 : Nat), none, PV.one (PS.view n (12 : Nat) (rwj g sx jx))), ((2 : Nat), none, i64 ((0 : Int))), ((0 : Nat), none, PV.one (PS.view n (12 : Nat) (rwj g sx jx)))]) ([]))) else none))) := by kernel_rfl
end Go.Proofs.Ytobfnncpjkeloaa.Sh
