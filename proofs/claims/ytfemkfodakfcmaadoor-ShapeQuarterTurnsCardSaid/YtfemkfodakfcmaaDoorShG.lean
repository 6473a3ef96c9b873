import Derived.Test.YtfemkfodakfcmaaDoorShF
namespace Go.Proofs.YtfemkfodakfcmaaDoor.Sh
open Go Go.RowKit Go.Proofs.YtfemkfodakfcmaaDoor.Ev Go.Proofs.Tryd
set_option maxRecDepth 100000
abbrev hTw (n q : Nat) (row : Nat → Nat → PS) (i j : Int) : En := [(129, none, i64 j), (128, none, i64 q), (127, none, .one (.view q 12 row)), (3, none, i64 i), (4, none, .one (.ptr 4 0)), (13, none, i64 i), (12, none, i64 n), (11, none, .one (.view n 12 row)), (2, none, i64 0), (0, none, .one (.view n 12 row))]
theorem tw_step (fl m m0 n q : Nat) (g : Nat → Nat → Int) (sx : Nat → Nat → ByteArray) (jx : Nat → Nat → PS) (i j : Int) (c : Nat → Int) (s1 s2 : ByteArray) (K : Exit → En → Heap → Option (PV × Heap)) : rounds (bodyAt prog gl O9 noD f27 1 0 fl pTw) (kTw fl m0 n (rwj g sx jx) i K) (m + 1) (hTw n q (rwj g sx jx) i j) [(4, .box (cel c s1 s2))] = (if (decide (j < ↑q)) = true then (chk true (decide ((0 : Int) ≤ j) && decide (j < ↑q)) (if (g j.toNat (0 : Nat) == c (0 : Nat)) = true then (K (Exit.ret) ([((2 : Nat), none, i64 ((6 : Int))), ((6 : Nat), none, PV.one (PS.ptr (6 : Nat) (0 : Nat))), ((129 : Nat), none, i64 (j)), ((128 : Nat), none, i64 (↑q)), ((127 : Nat), none, PV.one (PS.view q (12 : Nat) (rwj g sx jx))), ((3 : Nat), none, i64 (i)), ((4 : Nat), none, PV.one (PS.ptr (4 : Nat) (0 : Nat))), ((13 : Nat), none, i64 (i)), ((12 : Nat), none, i64 (↑n)), ((11 : Nat), none, PV.one (PS.view n (12 : Nat) (rwj g sx jx))), ((0 : Nat), none, PV.one (PS.view n (12 : Nat) (rwj g sx jx)))]) ([((6 : Nat), OB.box [PS.int IntKind.i64 (g j.toNat (0 : Nat)), PS.int IntKind.i64 (g j.toNat (1 : Nat)), PS.int IntKind.i64 (g j.toNat (2 : Nat)), PS.int IntKind.i64 (g j.toNat (3 : Nat)), PS.int IntKind.i64 (g j.toNat (4 : Nat)), PS.int IntKind.i64 (g j.toNat (5 : Nat)), PS.int IntKind.i64 (g j.toNat (6 : Nat)), PS.int IntKind.i64 (g j.toNat (7 : Nat)), PS.int IntKind.i64 (g j.toNat (8 : Nat)), PS.int IntKind.i64 (g j.toNat (9 : Nat)), PS.str (sx j.toNat (10 : Nat)), PS.str (sx j.toNat (11 : Nat))]), ((4 : Nat), OB.box [PS.int IntKind.i64 (c (0 : Nat)), PS.int IntKind.i64 (c (1 : Nat)), PS.int IntKind.i64 (c (2 : Nat)), PS.int IntKind.i64 (c (3 : Nat)), PS.int IntKind.i64 (c (4 : Nat)), PS.int IntKind.i64 (c (5 : Nat)), PS.int IntKind.i64 (c (6 : Nat)), PS.int IntKind.i64 (c (7 : Nat)), PS.int IntKind.i64 (c (8 : Nat)), PS.int IntKind.i64 (c (9 : Nat)), PS.str s1, PS.str s2])])) else (rounds (bodyAt prog gl O9 noD f27 1 0 fl pTw) (kTw fl m0 n (rwj g sx jx) i K) m ([((129 : Nat), none, i64 ((W (j + (1 : Int))))), ((128 : Nat), none, i64 (↑q)), ((127 : Nat), none, PV.one (PS.view q (12 : Nat) (rwj g sx jx))), ((3 : Nat), none, i64 (i)), ((4 : Nat), none, PV.one (PS.ptr (4 : Nat) (0 : Nat))), ((13 : Nat), none, i64 (i)), ((12 : Nat), none, i64 (↑n)), ((11 : Nat), none, PV.one (PS.view n (12 : Nat) (rwj g sx jx))), ((2 : Nat), none, i64 ((0 : Int))), ((0 : Nat), none, PV.one (PS.view n (12 : Nat) (rwj g sx jx)))]) ([((4 : Nat), OB.box [PS.int IntKind.i64 (c (0 : Nat)), PS.int IntKind.i64 (c (1 : Nat)), PS.int IntKind.i64 (c (2 : Nat)), PS.int IntKind.i64 (c (3 : Nat)), PS.int IntKind.i64 (c (4 : Nat)), PS.int IntKind.i64 (c (5 : Nat)), PS.int IntKind.i64 (c (6 : Nat)), PS.int IntKind.i64 (c (7 : Nat)), PS.int IntKind.i64 (c (8 : Nat)), PS.int IntKind.i64 (c (9 : Nat)), PS.str s1, PS.str s2])])))) else (chk true (true && (decide ((0 : Int) ≤ i) && decide (i ≤ ↑n))) (if (q_dec (q_parP (i.toNat - (0 : Nat)) (subRow none (0 : Nat) (rwj g sx jx)) (c (1 : Nat)))) = true then (rounds (bodyAt prog gl O9 noD f27 1 0 fl pChk) K m0 ([((13 : Nat), none, i64 ((W (i + (1 : Int))))), ((12 : Nat), none, i64 (↑n)), ((11 : Nat), none, PV.one (PS.view n (12 : Nat) (rwj g sx jx))), ((2 : Nat), none, i64 ((0 : Int))), ((0 : Nat), none, PV.one (PS.view n (12 : Nat) (rwj g sx jx)))]) ([])) else none))) := by kernel_rfl
/-- A drawing that Check lets pass. -/
def Val (n : Nat) (g : Nat → Nat → Int) : Prop := n ≤ 10 ∧ (∀ i, i < n → (0 ≤ g i 2 ∧ g i 2 ≤ 7) ∧ (1 ≤ g i 0 ∧ g i 0 ≤ 1000) ∧ (0 ≤ g i 1 ∧ g i 1 ≤ 1000) ∧ (-1000000 ≤ g i 3 ∧ g i 3 ≤ 1000000) ∧ (-1000000 ≤ g i 4 ∧ g i 4 ≤ 1000000) ∧ (0 ≤ g i 5 ∧ g i 5 ≤ 1000000) ∧ (0 ≤ g i 6 ∧ g i 6 ≤ 1000000) ∧ (0 ≤ g i 7 ∧ g i 7 < 3600) ∧ (0 ≤ g i 8 ∧ g i 8 ≤ 1000) ∧ (0 ≤ g i 9 ∧ g i 9 ≤ 1000) ∧ (g i 2 ≠ 6 → g i 8 = 0 ∧ g i 9 = 0)) ∧ (∀ i k, i < k → k < n → g i 0 ≠ g k 0) ∧ ∀ k, k < n → Std k g (g k 1) ∧ Grp g (g k 1)
theorem tw_loop (fl m0 n q : Nat) (hn : n ≤ 10) (hq : q ≤ n) (g : Nat → Nat → Int) (sx : Nat → Nat → ByteArray) (jx : Nat → Nat → PS) (c : Nat → Int) (s1 s2 : ByteArray) (K : Exit → En → Heap → Option (PV × Heap)) (h : ∀ i, i < q → g i 0 ≠ c 0) (hS : Std q g (c 1)) (hG : Grp g (c 1)) : ∀ (k j m : Nat), j + k = q → k < m →
    rounds (bodyAt prog gl O9 noD f27 1 0 fl pTw) (kTw fl m0 n (rwj g sx jx) q K) m (hTw n q (rwj g sx jx) q j) [(4, .box (cel c s1 s2))] = rounds (bodyAt prog gl O9 noD f27 1 0 fl pChk) K m0 (hChk n (rwj g sx jx) ((q + 1 : Nat) : Int)) [] := by
  intro k
  induction k with
  | zero =>
    intro j m hj hm
    obtain ⟨m, rfl⟩ : ∃ m', m = m' + 1 := ⟨m - 1, by omega⟩
    have hp : q_dec (q_parP (((q : Nat) : Int).toNat - 0) (subRow none 0 (rwj g sx jx)) (c 1)) = true := q_dec_iff.2 ⟨⟨g, sx, jx, rfl⟩, by
      show Std q (fun i j => q_gi (rwj g sx jx i j)) (c 1)
      exact ⟨hS.1, hS.2.1, hS.2.2.1, fun i hi => by
        obtain ⟨q0, q1, q2, q3, q4⟩ := hS.2.2.2 i hi
        simp only [gi_rwj g sx jx i 0 (by omega), gi_rwj g sx jx i 1 (by omega), gi_rwj g sx jx i 7 (by omega)]
        exact ⟨q0, q1, q2, fun j h3 h4 => by rw [gi_rwj g sx jx i j (by omega)]; exact q3 j h3 h4, q4⟩⟩, by
      show Grp (fun i j => q_gi (rwj g sx jx i j)) (c 1)
      unfold Grp
      simp only [gi_rwj g sx jx _ 1 (by omega), gi_rwj g sx jx _ 2 (by omega)]
      exact hG⟩
    rw [tw_step, if_neg (by simp <;> omega), chk_true (by simp <;> omega), if_pos hp]
    rw [W_id (n := (q : Int) + 1) (by omega) (by omega), show ((q + 1 : Nat) : Int) = (q : Int) + 1 by omega]
  | succ k ih =>
    intro j m hj hm
    obtain ⟨m, rfl⟩ : ∃ m', m = m' + 1 := ⟨m - 1, by omega⟩
    rw [tw_step, if_pos (by simp <;> omega), chk_true (by simp <;> omega), Int.toNat_natCast, if_neg (by have := h j (by omega); simpa using this)]
    have e : W ((j : Int) + 1) = ((j + 1 : Nat) : Int) := by rw [show ((j + 1 : Nat) : Int) = (j : Int) + 1 by omega]; exact W_id (by omega) (by omega)
    rw [e]
    exact ih (j + 1) m (by omega) (by omega)
theorem chk_loop (fl n : Nat) (hfl : n < fl) (g : Nat → Nat → Int) (sx : Nat → Nat → ByteArray) (jx : Nat → Nat → PS) (hV : Val n g) : ∀ (k i m : Nat), i + k = n → k < m →
    rounds (bodyAt prog gl O9 noD f27 1 0 fl pChk) (kAt prog gl O9 noD f27 1 0 fl pChk) m (hChk n (rwj g sx jx) i) [] = some (i64 0, []) := by
  intro k
  obtain ⟨hn, hc, hd, hp⟩ := hV
  induction k with
  | zero =>
    intro i m hi hm
    obtain ⟨m, rfl⟩ : ∃ m', m = m' + 1 := ⟨m - 1, by omega⟩
    refine (chk_step fl m n g sx jx i _).trans ((if_neg (by simp <;> omega)).trans ?_)
    kernel_rfl
  | succ k ih =>
    intro i m hi hm
    obtain ⟨m, rfl⟩ : ∃ m', m = m' + 1 := ⟨m - 1, by omega⟩
    obtain ⟨⟨a1, a2⟩, ⟨a3, a4⟩, ⟨a5, a6⟩, ⟨a7, a8⟩, ⟨a9, a10⟩, ⟨a11, a12⟩, ⟨a13, a14⟩, ⟨a15, a16⟩, ⟨a17, a18⟩, ⟨a19, a20⟩, a21⟩ := hc i (by omega)
    refine (chk_step fl m n g sx jx i _).trans ?_
    rw [if_pos (by simp <;> omega), chk_true (by simp <;> omega), Int.toNat_natCast]
    have lt : ∀ {a b : Int}, b ≤ a → decide (a < b) = false := fun h => by simp <;> omega
    have gt : ∀ {a b : Int}, a ≤ b → decide (a > b) = false := fun h => by simp <;> omega
    have ge : ∀ {a b : Int}, a < b → decide (a ≥ b) = false := fun h => by simp <;> omega
    rw [if_neg (by rw [lt a1, gt a2]; decide)]
    rw [if_neg (by rw [lt a3, gt (by omega), lt a5, gt (by omega), lt a17, gt (by omega), lt a19, gt (by omega)]; decide)]
    rw [if_neg (by rw [lt (by omega), gt (by omega), lt (by omega), gt (by omega), lt a11, gt (by omega), lt a13, gt (by omega), lt a15, ge a16]; decide)]
    rw [if_neg (by
      by_cases h6 : g i 2 = 6
      · rw [h6]; simp
      · obtain ⟨e1, e2⟩ := a21 h6
        rw [e1, e2]
        cases g i 2 != 6 <;> decide)]
    rw [chk_true (by simp <;> omega)]
    have := tw_loop fl m n i hn (by omega) g sx jx (fun j => g i j) (sx i 10) (sx i 11) (kAt prog gl O9 noD f27 1 0 fl pChk) (fun i' hi' => hd i' i hi' (by omega)) (hp i (by omega)).1 (hp i (by omega)).2 i 0 fl (by omega) (by omega)
    rw [ih (i + 1) m (by omega) (by omega)] at this
    exact this
def q_valP (n : Nat) (row : Nat → Nat → PS) : Prop := q_isRw row ∧ Val n (fun i j => q_gi (row i j))
theorem chk_eq (n : Nat) (row : Nat → Nat → PS) (h : q_valP n row) : callF prog gl noD 11 O9 0 27 [.one (.view n 12 row)] [] = some (i64 0, []) := by
  have hn := h.2.1
  refine (chk_pre 11 n row).trans ((if_neg (by simp <;> omega)).trans ?_)
  obtain ⟨sx, jx, hrow⟩ := isRw_gi h.1
  have h2 := h.2
  generalize (fun i j => q_gi (row i j)) = g at *
  subst hrow
  exact chk_loop 11 n (by omega) g sx jx h2 n 0 11 (by omega) (by omega)
noncomputable def aChk : Nat → List PV → Heap → Option (Bool × PV × Heap)
  | 0, [.one (.view n 12 row)], [] => some (q_dec (q_valP n row), i64 0, [])
  | _, _, _ => none
noncomputable def Oa : Orac := addM 27 aChk O9
theorem sOa : Sound prog gl Oa := add_ok (D := noD) sO9 sO9 mo (fun nb vs H v H' h => by
  unfold aChk at h
  split at h
  · rename_i n row
    obtain ⟨h1, h2, h3⟩ : q_dec (q_valP n row) = true ∧ i64 0 = v ∧ [] = H' := by simpa using h
    subst h2 h3
    exact ⟨11, chk_eq n row (q_dec_iff.1 h1)⟩
  · cases h)
end Go.Proofs.YtfemkfodakfcmaaDoor.Sh
