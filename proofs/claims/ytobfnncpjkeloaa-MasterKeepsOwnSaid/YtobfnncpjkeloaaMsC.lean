import Derived.Test.YtobfnncpjkeloaaMsB
namespace Go.Proofs.Ytobfnncpjkeloaa.Sh
open Go Go.RowKit Go.Proofs.Ytobfnncpjkeloaa.Ev Go.Proofs.Try
set_option maxRecDepth 1000000
set_option linter.unusedVariables false
/-! find -/
noncomputable def O4 : Orac := addM 70 (fun nb vs H => match nb, vs, H with
  | 1, [.agg [.int .i64 a, .int .i64 _, .int .i64 _, .int .i64 _, .int .i64 _, .int .i64 _, .int .i64 _, .int .i64 _, .int .i64 _, .int .i64 _, .str _, .str _], .one (.ptr 0 0)], [(0, .box [.int .i64 v])] => some (true, bl (a == v), [(0, .box [.int .i64 v])])
  | _, _, _ => none) O3
theorem sO4 : Sound prog gl O4 := add_ok (D := noD) sO3 sO3 mo (fun nb vs H v H' h => by
  split at h
  · rename_i c0 c1 c2 c3 c4 c5 c6 c7 c8 c9 s1 s2 x
    obtain ⟨h3, h4⟩ : bl (c0 == x) = v ∧ [(0, OB.box [.int .i64 x])] = H' := by simpa using h
    subst h3 h4
    exact ⟨1, fc_raw (fun j => [c0, c1, c2, c3, c4, c5, c6, c7, c8, c9].getD j 0) s1 s2 x⟩
  · cases h)
abbrev pIx : List Bool := [true, false, true, false]
abbrev hIx (n : Nat) (row : Nat → Nat → PS) (i : Int) : En := [(8, none, i64 i), (7, none, i64 n), (4, none, i64 0), (0, none, .one (.view n 12 row)), (1, none, .fn 70 [.ptr 0 0])]
noncomputable abbrev yIx (fl : Nat) : En → Heap → (Exit → En → Heap → Option (PV × Heap)) → Option (PV × Heap) := bodyAt prog gl O4 noD f69 2 1 fl pIx
noncomputable abbrev kIx (fl : Nat) := kAt prog gl O4 noD f69 2 1 fl pIx
theorem ix_pre (fl n : Nat) (row : Nat → Nat → PS) (x : Int) : callF prog gl noD fl O4 1 69 [.one (.view n 12 row), .fn 70 [.ptr 0 0]] [(0, .box [.int .i64 x])] = (rounds (yIx fl) (kIx fl) fl ([((8 : Nat), none, i64 ((0 : Int))), ((7 : Nat), none, i64 ((↑n : Int))), ((4 : Nat), none, i64 ((0 : Int))), ((0 : Nat), none, PV.one (PS.view n (12 : Nat) row)), ((1 : Nat), none, PV.fn (70 : Nat) [PS.ptr (0 : Nat) (0 : Nat)])]) ([((0 : Nat), OB.box [PS.int IntKind.i64 x])])) := by kernel_rfl
theorem ix_st (fl mm n : Nat) (g : Nat → Nat → Int) (sx : Nat → Nat → ByteArray) (jx : Nat → Nat → PS) (x i : Int) : rounds (yIx fl) (kIx fl) (mm + 1) (hIx n (rwj g sx jx) i) [(0, .box [.int .i64 x])] = (if (decide (i < (↑n : Int))) = true then (chk true (decide ((0 : Int) ≤ i) && decide (i < (↑n : Int))) (if (g i.toNat (0 : Nat) == x) = true then (some ((i64 (i), [((0 : Nat), OB.box [PS.int IntKind.i64 x])]))) else (rounds (yIx fl) (kIx fl) mm ([((8 : Nat), none, i64 ((W (i + (1 : Int))))), ((7 : Nat), none, i64 ((↑n : Int))), ((4 : Nat), none, i64 ((0 : Int))), ((0 : Nat), none, PV.one (PS.view n (12 : Nat) (rwj g sx jx))), ((1 : Nat), none, PV.fn (70 : Nat) [PS.ptr (0 : Nat) (0 : Nat)])]) ([((0 : Nat), OB.box [PS.int IntKind.i64 x])])))) else (some ((i64 ((-1 : Int)), [((0 : Nat), OB.box [PS.int IntKind.i64 x])])))) := by kernel_rfl
theorem ix_nil (x : Int) : callF prog gl noD 1 O4 1 69 [.one .nils, .fn 70 [.ptr 0 0]] [(0, .box [.int .i64 x])] = (some ((i64 ((-1 : Int)), [((0 : Nat), OB.box [PS.int IntKind.i64 x])]))) := by kernel_rfl
/-- The first place from one on at which a number stands in column 0; or -1. -/
def q_ixF (B : Nat → Nat → Int) (v : Int) : Nat → Nat → Int
  | 0, _ => -1
  | r + 1, i => if B i 0 = v then i else q_ixF B v r (i + 1)
def q_fd (n : Nat) (g : Nat → Nat → Int) (x : Int) : Int := q_ixF g x n 0
theorem ixF_spec (B : Nat → Nat → Int) (v : Int) : ∀ (r i : Nat), (q_ixF B v r i = -1 ∧ ∀ k, i ≤ k → k < i + r → B k 0 ≠ v) ∨ ∃ k, i ≤ k ∧ k < i + r ∧ q_ixF B v r i = k ∧ B k 0 = v ∧ ∀ k', i ≤ k' → k' < k → B k' 0 ≠ v := by
  intro r
  induction r with
  | zero => intro i; exact .inl ⟨rfl, fun k h1 h2 => absurd h2 (by omega)⟩
  | succ r ih =>
    intro i
    unfold q_ixF
    by_cases e : B i 0 = v
    · rw [if_pos e]; exact .inr ⟨i, by omega, by omega, rfl, e, fun k' h1 h2 => absurd h2 (by omega)⟩
    · rw [if_neg e]
      rcases ih (i + 1) with ⟨h1, h2⟩ | ⟨k, h1, h2, h3, h4, h5⟩
      · refine .inl ⟨h1, fun k hk1 hk2 => ?_⟩
        by_cases e2 : k = i
        · subst e2; exact e
        · exact h2 k (by omega) (by omega)
      · refine .inr ⟨k, by omega, by omega, h3, h4, fun k' hk1 hk2 => ?_⟩
        by_cases e2 : k' = i
        · subst e2; exact e
        · exact h5 k' (by omega) hk2
theorem fd_spec (n : Nat) (g : Nat → Nat → Int) (x : Int) : (q_fd n g x = -1 ∧ ∀ k, k < n → g k 0 ≠ x) ∨ ∃ k, k < n ∧ q_fd n g x = k ∧ g k 0 = x ∧ ∀ k', k' < k → g k' 0 ≠ x := by
  rcases ixF_spec g x n 0 with ⟨h1, h2⟩ | ⟨k, _, h2, h3, h4, h5⟩
  · exact .inl ⟨h1, fun k hk => h2 k (by omega) (by omega)⟩
  · exact .inr ⟨k, by omega, h3, h4, fun k' hk => h5 k' (by omega) hk⟩
theorem fd_at {n k : Nat} {g : Nat → Nat → Int} {x : Int} (hk : k < n) (h : g k 0 = x) (hu : ∀ k', k' < k → g k' 0 ≠ x) : q_fd n g x = k := by
  rcases fd_spec n g x with ⟨_, h2⟩ | ⟨k2, h2, h3, h4, h5⟩
  · exact absurd h (h2 k hk)
  · rw [h3]
    rcases Nat.lt_trichotomy k k2 with c | c | c
    · exact absurd h (h5 k c)
    · rw [c]
    · exact absurd h4 (hu k2 c)
theorem fd_no {n : Nat} {g : Nat → Nat → Int} {x : Int} (h : ∀ k, k < n → g k 0 ≠ x) : q_fd n g x = -1 := by
  rcases fd_spec n g x with ⟨h1, _⟩ | ⟨k2, h2, h3, h4, h5⟩
  · exact h1
  · exact absurd h4 (h k2 h2)
theorem ixF_cg {g g' : Nat → Nat → Int} {x : Int} : ∀ (r i : Nat), (∀ k, k < i + r → g k 0 = g' k 0) → q_ixF g x r i = q_ixF g' x r i := by
  intro r
  induction r with
  | zero => intro i _; rfl
  | succ r ih =>
    intro i h
    unfold q_ixF
    rw [h i (by omega), ih (i + 1) (fun k hk => h k (by omega))]
theorem fd_cg {n : Nat} {g g' : Nat → Nat → Int} {x : Int} (h : ∀ k, k < n → g k 0 = g' k 0) : q_fd n g x = q_fd n g' x := ixF_cg n 0 (fun k hk => h k (by omega))
theorem ix_loop (fl n : Nat) (hn : n ≤ 1000000) (g : Nat → Nat → Int) (sx : Nat → Nat → ByteArray) (jx : Nat → Nat → PS) (x : Int) : ∀ (r i m : Nat), i + r = n → r < m → rounds (yIx fl) (kIx fl) m (hIx n (rwj g sx jx) (i : Nat)) [(0, .box [.int .i64 x])] = some (i64 (q_ixF g x r i), [(0, .box [.int .i64 x])]) := by
  intro r
  induction r with
  | zero =>
    intro i m hi hm
    obtain ⟨m, rfl⟩ : ∃ m', m = m' + 1 := ⟨m - 1, by omega⟩
    rw [ix_st, if_neg (by simp <;> omega)]
    rfl
  | succ r ih =>
    intro i m hi hm
    obtain ⟨m, rfl⟩ : ∃ m', m = m' + 1 := ⟨m - 1, by omega⟩
    rw [ix_st, if_pos (by simp <;> omega), chk_true (by simp <;> omega), Int.toNat_natCast]
    unfold q_ixF
    by_cases e : g i 0 = x
    · rw [if_pos (by simpa using e), if_pos e]
    · rw [if_neg (by simpa using e), if_neg e, W_nat (by omega)]
      exact ih (i + 1) m (by omega) (by omega)
noncomputable def O5 : Orac := addM 69 (fun nb vs H => match nb, vs, H with
  | 1, [.one (.view n 12 row), .fn 70 [.ptr 0 0]], [(0, .box [.int .i64 x])] => some (q_dec (q_isRw row ∧ n ≤ 100000), i64 (q_fd n (q_nu n row) x), [(0, .box [.int .i64 x])])
  | 1, [.one .nils, .fn 70 [.ptr 0 0]], [(0, .box [.int .i64 x])] => some (true, i64 (-1), [(0, .box [.int .i64 x])])
  | _, _, _ => none) O4
theorem sO5 : Sound prog gl O5 := add_ok (D := noD) sO4 sO4 mo (fun nb vs H v H' h => by
  split at h
  · rename_i n row x
    obtain ⟨h1, h2, h3⟩ : q_dec (q_isRw row ∧ n ≤ 100000) = true ∧ i64 (q_fd n (q_nu n row) x) = v ∧ [(0, OB.box [.int .i64 x])] = H' := by simpa using h
    subst h2 h3
    obtain ⟨⟨g, sx, jx, rfl⟩, hn⟩ := q_dec_iff.1 h1
    refine ⟨n + 1, (ix_pre (n + 1) n _ x).trans ?_⟩
    refine (ix_loop (n + 1) n (by omega) g sx jx x n 0 (n + 1) (by omega) (by omega)).trans ?_
    rw [nu_rwj]
    have e : q_fd n (cutG n g) x = q_fd n g x := fd_cg (fun k hk => cutG_in hk (by omega))
    rw [e]; rfl
  · rename_i x
    obtain ⟨h2, h3⟩ : i64 (-1) = v ∧ [(0, OB.box [.int .i64 x])] = H' := by simpa using h
    subst h2 h3
    exact ⟨1, ix_nil x⟩
  · cases h)
theorem fd_raw (n : Nat) (row : Nat → Nat → PS) (x : Int) : callF prog gl noD 1 O5 0 61 [.one (.view n 12 row), i64 x] [] = (if (q_dec (q_isRw row ∧ n ≤ (100000 : Nat))) = true then (some ((i64 ((q_fd n (q_nu n row) x)), []))) else none) := by kernel_rfl
theorem fd_nil (x : Int) : callF prog gl noD 1 O5 0 61 [.one .nils, i64 x] [] = (some ((i64 ((-1 : Int)), []))) := by kernel_rfl
noncomputable def O6 : Orac := addM 61 (fun nb vs H => match nb, vs, H with
  | 0, [.one (.view n 12 row), .one (.int .i64 x)], [] => some (q_dec (q_isRw row ∧ n ≤ 100000), i64 (q_fd n (q_nu n row) x), [])
  | 0, [.one .nils, .one (.int .i64 x)], [] => some (true, i64 (-1), [])
  | _, _, _ => none) O5
theorem sO6 : Sound prog gl O6 := add_ok (D := noD) sO5 sO5 mo (fun nb vs H v H' h => by
  split at h
  · rename_i n row x
    obtain ⟨h1, h2, h3⟩ : q_dec (q_isRw row ∧ n ≤ 100000) = true ∧ i64 (q_fd n (q_nu n row) x) = v ∧ [] = H' := by simpa using h
    subst h2 h3
    exact ⟨1, (fd_raw n row x).trans (if_pos h1)⟩
  · rename_i x
    obtain ⟨h2, h3⟩ : i64 (-1) = v ∧ [] = H' := by simpa using h
    subst h2 h3
    exact ⟨1, fd_nil x⟩
  · cases h)
end Go.Proofs.Ytobfnncpjkeloaa.Sh
