import Derived.Test.YtlhgmlfhlbmjpaaTlQ
namespace Go.Proofs.Ytlhgmlfhlbmjpaa.Sh
open Go Go.RowKit Go.Proofs.Ytlhgmlfhlbmjpaa.Ev Go.Proofs.Try
set_option maxRecDepth 100000
set_option linter.unusedVariables false
/-! ContainsFunc with ForthAndBack's other closure -/
theorem fc2_raw (fl : Nat) (a b c d e f g v e1 e2 e3 : Int) : callF prog gl noD fl O7 1 19 [.agg [.int .i64 a, .int .i64 b, .int .i64 c, .int .i64 d, .int .i64 e, .int .i64 f, .int .i64 g], .one (.ptr 0 0)] [(0, bx4 v e1 e2 e3)] = (some ((PV.one (PS.bool (bif a == v then b != (2 : Int) else false)), [((0 : Nat), OB.box [PS.int IntKind.i64 v, PS.int IntKind.i64 e1, PS.int IntKind.i64 e2, PS.int IntKind.i64 e3])]))) := by kernel_rfl
noncomputable def O33 : Orac := addM 19 (fun nb vs H => match nb, vs, H with
  | 1, [.agg [.int .i64 a, .int .i64 b, .int .i64 _, .int .i64 _, .int .i64 _, .int .i64 _, .int .i64 _], .one (.ptr 0 0)], [(0, .box [.int .i64 v, .int .i64 e1, .int .i64 e2, .int .i64 e3])] => some (true, bl (bif a == v then b != 2 else false), [(0, .box [.int .i64 v, .int .i64 e1, .int .i64 e2, .int .i64 e3])])
  | _, _, _ => none) O32
theorem sO33 : Sound prog gl O33 := add_ok (D := noD) sO32 sO7 mo (fun nb vs H v H' h => by
  split at h
  · rename_i a b c d e f g x e1 e2 e3
    obtain ⟨h3, h4⟩ : bl (bif a == x then b != 2 else false) = v ∧ [(0, OB.box [PS.int .i64 x, .int .i64 e1, .int .i64 e2, .int .i64 e3])] = H' := by simpa using h
    subst h3 h4
    exact ⟨1, fc2_raw 1 a b c d e f g x e1 e2 e3⟩
  · cases h)
noncomputable abbrev yKx (fl : Nat) : En → Heap → (Exit → En → Heap → Option (PV × Heap)) → Option (PV × Heap) := bodyAt prog gl O33 DS f35 2 1 fl pIx
noncomputable abbrev kKx (fl : Nat) := kAt prog gl O33 DS f35 2 1 fl pIx
theorem kx_pre (fl n : Nat) (B : Nat → Nat → Int) (J : Nat → Nat → PS) (v e1 e2 e3 : Int) : callF prog gl DS fl O33 1 35 [.one (.view n 7 (rj 7 B J)), .fn 19 [.ptr 0 0]] [(0, bx4 v e1 e2 e3)] = (rounds (yKx fl) (kKx fl) fl ([((8 : Nat), none, i64 ((0 : Int))), ((7 : Nat), none, i64 ((↑n : Int))), ((4 : Nat), none, i64 ((0 : Int))), ((0 : Nat), none, PV.one (PS.view n (7 : Nat) (rj (7 : Nat) B J))), ((1 : Nat), none, PV.fn (19 : Nat) [PS.ptr (0 : Nat) (0 : Nat)])]) ([((0 : Nat), OB.box [PS.int IntKind.i64 v, PS.int IntKind.i64 e1, PS.int IntKind.i64 e2, PS.int IntKind.i64 e3])])) := by kernel_rfl
abbrev hKx (n : Nat) (A : Nat → Nat → PS) (i : Int) : En := [(8, none, i64 i), (7, none, i64 n), (4, none, i64 0), (0, none, .one (.view n 7 A)), (1, none, .fn 19 [.ptr 0 0])]
theorem kx_st (fl mm n : Nat) (B : Nat → Nat → Int) (J : Nat → Nat → PS) (v e1 e2 e3 i : Int) : rounds (yKx fl) (kKx fl) (mm + 1) (hKx n (rj 7 B J) i) [(0, bx4 v e1 e2 e3)] = (if (decide (i < (↑n : Int))) = true then (chk true (decide ((0 : Int) ≤ i) && decide (i < (↑n : Int))) (if (bif B i.toNat (0 : Nat) == v then B i.toNat (1 : Nat) != (2 : Int) else false) = true then (some ((i64 (i), [((0 : Nat), OB.box [PS.int IntKind.i64 v, PS.int IntKind.i64 e1, PS.int IntKind.i64 e2, PS.int IntKind.i64 e3])]))) else (rounds (yKx fl) (kKx fl) mm ([((8 : Nat), none, i64 ((W (i + (1 : Int))))), ((7 : Nat), none, i64 ((↑n : Int))), ((4 : Nat), none, i64 ((0 : Int))), ((0 : Nat), none, PV.one (PS.view n (7 : Nat) (rj (7 : Nat) B J))), ((1 : Nat), none, PV.fn (19 : Nat) [PS.ptr (0 : Nat) (0 : Nat)])]) ([((0 : Nat), OB.box [PS.int IntKind.i64 v, PS.int IntKind.i64 e1, PS.int IntKind.i64 e2, PS.int IntKind.i64 e3])])))) else (some ((i64 ((-1 : Int)), [((0 : Nat), OB.box [PS.int IntKind.i64 v, PS.int IntKind.i64 e1, PS.int IntKind.i64 e2, PS.int IntKind.i64 e3])])))) := by kernel_rfl
/-- The first effect from one on by which an item is seen or hidden. -/
def q_kxF (B : Nat → Nat → Int) (v : Int) : Nat → Nat → Int
  | 0, _ => -1
  | r + 1, i => if B i 0 = v ∧ B i 1 ≠ 2 then i else q_kxF B v r (i + 1)
theorem kx_loop (fl n : Nat) (hn : n ≤ 1000000) (B : Nat → Nat → Int) (J : Nat → Nat → PS) (v e1 e2 e3 : Int) : ∀ (r i m : Nat), i + r = n → r < m → rounds (yKx fl) (kKx fl) m (hKx n (rj 7 B J) (i : Nat)) [(0, bx4 v e1 e2 e3)] = some (i64 (q_kxF B v r i), [(0, bx4 v e1 e2 e3)]) := by
  intro r
  induction r with
  | zero =>
    intro i m hi hm
    obtain ⟨m, rfl⟩ : ∃ m', m = m' + 1 := ⟨m - 1, by omega⟩
    rw [kx_st, if_neg (by simp <;> omega)]
    rfl
  | succ r ih =>
    intro i m hi hm
    obtain ⟨m, rfl⟩ : ∃ m', m = m' + 1 := ⟨m - 1, by omega⟩
    rw [kx_st, if_pos (by simp <;> omega), chk_true (by simp <;> omega), Int.toNat_natCast]
    unfold q_kxF
    by_cases e : B i 0 = v ∧ B i 1 ≠ 2
    · rw [if_pos (by simp [e.1, e.2]), if_pos e]
    · rw [if_neg (by simp; omega), if_neg e, W_nat (by omega)]
      exact ih (i + 1) m (by omega) (by omega)
theorem kxF_cut {n : Nat} {B : Nat → Nat → Int} {v : Int} : ∀ (r i : Nat), i + r ≤ n → q_kxF (cut n 7 B) v r i = q_kxF B v r i := by
  intro r
  induction r with
  | zero => intro i _; rfl
  | succ r ih =>
    intro i hi
    unfold q_kxF
    rw [cut_in (by omega) (by omega), cut_in (by omega) (by omega), ih (i + 1) (by omega)]
noncomputable def O34 : Orac := addM 35 (fun nb vs H => match nb, vs, H with
  | 1, [.one (.view n 7 row), .fn 19 [.ptr 0 0]], [(0, .box [.int .i64 v, .int .i64 e1, .int .i64 e2, .int .i64 e3])] => some (q_dec (q_isJ 7 row ∧ n ≤ 1000), i64 (q_kxF (q_num n 7 row) v n 0), [(0, bx4 v e1 e2 e3)])
  | _, _, _ => none) O33
theorem sO34 : Sound prog gl O34 := add_ok (D := DS) sO33 sO33 mo (fun nb vs H v H' h => by
  split at h
  · rename_i n row x e1 e2 e3
    obtain ⟨h1, h2, h3⟩ : q_dec (q_isJ 7 row ∧ n ≤ 1000) = true ∧ i64 (q_kxF (q_num n 7 row) x n 0) = v ∧ [(0, bx4 x e1 e2 e3)] = H' := by simpa using h
    subst h2 h3
    obtain ⟨⟨B, J, rfl⟩, hn⟩ := q_dec_iff.1 h1
    refine ⟨n + 1, (kx_pre (n + 1) n B J x e1 e2 e3).trans ?_⟩
    refine (kx_loop (n + 1) n (by omega) B J x e1 e2 e3 n 0 (n + 1) (by omega) (by omega)).trans ?_
    rw [num_rj, kxF_cut n 0 (by omega)]
  · cases h)
theorem cf_raw (n : Nat) (r : Nat → Nat → PS) (v e1 e2 e3 : Int) : callF prog gl DS 1 O34 1 18 [.one (.view n 7 r), .fn 19 [.ptr 0 0]] [(0, bx4 v e1 e2 e3)] = (if (q_dec (q_isJ (7 : Nat) r ∧ n ≤ (1000 : Nat))) = true then (some ((PV.one (PS.bool (decide (q_kxF (q_num n (7 : Nat) r) v n (0 : Nat) ≥ (0 : Int)))), [((0 : Nat), OB.box [PS.int IntKind.i64 v, PS.int IntKind.i64 e1, PS.int IntKind.i64 e2, PS.int IntKind.i64 e3])]))) else none) := by kernel_rfl
noncomputable def O35 : Orac := addM 18 (fun nb vs H => match nb, vs, H with
  | 1, [.one (.view n 7 row), .fn 19 [.ptr 0 0]], [(0, .box [.int .i64 v, .int .i64 e1, .int .i64 e2, .int .i64 e3])] => some (q_dec (q_isJ 7 row ∧ n ≤ 1000), bl (decide (q_kxF (q_num n 7 row) v n 0 ≥ 0)), [(0, bx4 v e1 e2 e3)])
  | _, _, _ => none) O34
theorem sO35 : Sound prog gl O35 := add_ok (D := DS) sO34 sO34 mo (fun nb vs H v H' h => by
  split at h
  · rename_i n row x e1 e2 e3
    obtain ⟨h1, h2, h3⟩ : q_dec (q_isJ 7 row ∧ n ≤ 1000) = true ∧ bl (decide (q_kxF (q_num n 7 row) x n 0 ≥ 0)) = v ∧ [(0, bx4 x e1 e2 e3)] = H' := by simpa using h
    subst h2 h3
    exact ⟨1, (cf_raw n row x e1 e2 e3).trans (if_pos h1)⟩
  · cases h)
end Go.Proofs.Ytlhgmlfhlbmjpaa.Sh
