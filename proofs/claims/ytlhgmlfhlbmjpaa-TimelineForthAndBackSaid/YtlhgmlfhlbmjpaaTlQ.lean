import Derived.Test.YtlhgmlfhlbmjpaaTlP
namespace Go.Proofs.Ytlhgmlfhlbmjpaa.Sh
open Go Go.RowKit Go.Proofs.Ytlhgmlfhlbmjpaa.Ev Go.Proofs.Try
set_option maxRecDepth 100000
set_option linter.unusedVariables false
/-! IndexFunc with ForthAndBack's closure -/
abbrev bx4 (v e1 e2 e3 : Int) : OB := .box [.int .i64 v, .int .i64 e1, .int .i64 e2, .int .i64 e3]
theorem fc1_raw (fl : Nat) (a b c d v e1 e2 e3 : Int) : callF prog gl noD fl O7 1 17 [.agg [.int .i64 a, .int .i64 b, .int .i64 c, .int .i64 d], .one (.ptr 0 0)] [(0, bx4 v e1 e2 e3)] = (some ((PV.one (PS.bool (a == v)), [((0 : Nat), OB.box [PS.int IntKind.i64 v, PS.int IntKind.i64 e1, PS.int IntKind.i64 e2, PS.int IntKind.i64 e3])]))) := by kernel_rfl
noncomputable def O31 : Orac := addM 17 (fun nb vs H => match nb, vs, H with
  | 1, [.agg [.int .i64 a, .int .i64 _, .int .i64 _, .int .i64 _], .one (.ptr 0 0)], [(0, .box [.int .i64 v, .int .i64 e1, .int .i64 e2, .int .i64 e3])] => some (true, bl (a == v), [(0, .box [.int .i64 v, .int .i64 e1, .int .i64 e2, .int .i64 e3])])
  | _, _, _ => none) O30
theorem sO31 : Sound prog gl O31 := add_ok (D := noD) sO30 sO7 mo (fun nb vs H v H' h => by
  split at h
  · rename_i a b c d x e1 e2 e3
    obtain ⟨h3, h4⟩ : bl (a == x) = v ∧ [(0, OB.box [.int .i64 x, .int .i64 e1, .int .i64 e2, .int .i64 e3])] = H' := by simpa using h
    subst h3 h4
    exact ⟨1, fc1_raw 1 a b c d x e1 e2 e3⟩
  · cases h)
abbrev hJx (n : Nat) (i : Int) : En := [(8, none, i64 i), (7, none, i64 n), (4, none, i64 0), (0, none, .one (.os 0)), (1, none, .fn 17 [.ptr 1 0])]
noncomputable abbrev yJx (fl : Nat) : En → Heap → (Exit → En → Heap → Option (PV × Heap)) → Option (PV × Heap) := bodyAt prog gl O31 DS f16 2 2 fl pIx
noncomputable abbrev kJx (fl : Nat) := kAt prog gl O31 DS f16 2 2 fl pIx
theorem jx_pre (fl n : Nat) (B : Nat → Nat → Int) (J : Nat → Nat → PS) (v e1 e2 e3 : Int) : callF prog gl DS fl O31 2 16 [.one (.os 0), .fn 17 [.ptr 1 0]] [(0, .rows 35 4 n (rj 4 B J)), (1, bx4 v e1 e2 e3)] = (rounds (yJx fl) (kJx fl) fl ([((8 : Nat), none, i64 ((0 : Int))), ((7 : Nat), none, i64 ((↑n : Int))), ((4 : Nat), none, i64 ((0 : Int))), ((0 : Nat), none, PV.one (PS.os (0 : Nat))), ((1 : Nat), none, PV.fn (17 : Nat) [PS.ptr (1 : Nat) (0 : Nat)])]) ([((0 : Nat), OB.rows (35 : Nat) (4 : Nat) n (rj (4 : Nat) B J)), ((1 : Nat), OB.box [PS.int IntKind.i64 v, PS.int IntKind.i64 e1, PS.int IntKind.i64 e2, PS.int IntKind.i64 e3])])) := by kernel_rfl
theorem jx_st (fl mm n : Nat) (B : Nat → Nat → Int) (J : Nat → Nat → PS) (v e1 e2 e3 i : Int) : rounds (yJx fl) (kJx fl) (mm + 1) (hJx n i) [(0, .rows 35 4 n (rj 4 B J)), (1, bx4 v e1 e2 e3)] = (if (decide (i < (↑n : Int))) = true then (chk true (decide ((0 : Int) ≤ i) && decide (i < (↑n : Int))) (chk true (decide (i.toNat < n) && true) (if (B i.toNat (0 : Nat) == v) = true then (some ((i64 (i), [((0 : Nat), OB.rows (35 : Nat) (4 : Nat) n (rj (4 : Nat) B J)), ((1 : Nat), OB.box [PS.int IntKind.i64 v, PS.int IntKind.i64 e1, PS.int IntKind.i64 e2, PS.int IntKind.i64 e3])]))) else (rounds (yJx fl) (kJx fl) mm ([((8 : Nat), none, i64 ((W (i + (1 : Int))))), ((7 : Nat), none, i64 ((↑n : Int))), ((4 : Nat), none, i64 ((0 : Int))), ((0 : Nat), none, PV.one (PS.os (0 : Nat))), ((1 : Nat), none, PV.fn (17 : Nat) [PS.ptr (1 : Nat) (0 : Nat)])]) ([((0 : Nat), OB.rows (35 : Nat) (4 : Nat) n (rj (4 : Nat) B J)), ((1 : Nat), OB.box [PS.int IntKind.i64 v, PS.int IntKind.i64 e1, PS.int IntKind.i64 e2, PS.int IntKind.i64 e3])]))))) else (some ((i64 ((-1 : Int)), [((0 : Nat), OB.rows (35 : Nat) (4 : Nat) n (rj (4 : Nat) B J)), ((1 : Nat), OB.box [PS.int IntKind.i64 v, PS.int IntKind.i64 e1, PS.int IntKind.i64 e2, PS.int IntKind.i64 e3])])))) := by kernel_rfl
theorem jx_loop (fl n : Nat) (hn : n ≤ 1000000) (B : Nat → Nat → Int) (J : Nat → Nat → PS) (v e1 e2 e3 : Int) : ∀ (r i m : Nat), i + r = n → r < m → rounds (yJx fl) (kJx fl) m (hJx n (i : Nat)) [(0, .rows 35 4 n (rj 4 B J)), (1, bx4 v e1 e2 e3)] = some (i64 (q_ixF B v r i), [(0, .rows 35 4 n (rj 4 B J)), (1, bx4 v e1 e2 e3)]) := by
  intro r
  induction r with
  | zero =>
    intro i m hi hm
    obtain ⟨m, rfl⟩ : ∃ m', m = m' + 1 := ⟨m - 1, by omega⟩
    rw [jx_st, if_neg (by simp <;> omega)]
    rfl
  | succ r ih =>
    intro i m hi hm
    obtain ⟨m, rfl⟩ : ∃ m', m = m' + 1 := ⟨m - 1, by omega⟩
    rw [jx_st, if_pos (by simp <;> omega), chk_true (by simp <;> omega), chk_true (by simp <;> omega), Int.toNat_natCast]
    unfold q_ixF
    by_cases e : B i 0 = v
    · rw [if_pos (by simpa using e), if_pos e]
    · rw [if_neg (by simpa using e), if_neg e, W_nat (by omega)]
      exact ih (i + 1) m (by omega) (by omega)
noncomputable def O32 : Orac := addM 16 (fun nb vs H => match nb, vs, H with
  | 2, [.one (.os 0), .fn 17 [.ptr 1 0]], [(0, .rows 35 4 n row), (1, .box [.int .i64 v, .int .i64 e1, .int .i64 e2, .int .i64 e3])] => some (q_dec (q_isJ 4 row ∧ n ≤ 1000), i64 (q_ix n (q_num n 4 row) v), [(0, .rows 35 4 n row), (1, bx4 v e1 e2 e3)])
  | _, _, _ => none) O31
theorem sO32 : Sound prog gl O32 := add_ok (D := DS) sO31 sO31 mo (fun nb vs H v H' h => by
  split at h
  · rename_i n row x e1 e2 e3
    obtain ⟨h1, h2, h3⟩ : q_dec (q_isJ 4 row ∧ n ≤ 1000) = true ∧ i64 (q_ix n (q_num n 4 row) x) = v ∧ [(0, OB.rows 35 4 n row), (1, bx4 x e1 e2 e3)] = H' := by simpa using h
    subst h2 h3
    obtain ⟨⟨B, J, rfl⟩, hn⟩ := q_dec_iff.1 h1
    refine ⟨n + 1, (jx_pre (n + 1) n B J x e1 e2 e3).trans ?_⟩
    refine (jx_loop (n + 1) n (by omega) B J x e1 e2 e3 n 0 (n + 1) (by omega) (by omega)).trans ?_
    rw [num_rj]
    unfold q_ix
    rw [ixF_cut n 0 (by omega)]
  · cases h)
end Go.Proofs.Ytlhgmlfhlbmjpaa.Sh
