import Derived.Test.YtobfnncpjkeloaaMsG
namespace Go.Proofs.Ytobfnncpjkeloaa.Sh
open Go Go.RowKit Go.Proofs.Ytobfnncpjkeloaa.Ev Go.Proofs.Try
set_option maxRecDepth 1000000
set_option linter.unusedVariables false
/-! Index, Contains of texts -/
theorem rt_in {b : Nat → ByteArray} {J : Nat → Nat → PS} {i : Nat} : rt b J i 0 = .str (b i) := rfl
abbrev tIs (n : Nat) (b : Nat → ByteArray) (J : Nat → Nat → PS) : Heap := []
abbrev pXs : List Bool := [true, false, true, false]
noncomputable abbrev yXo (fl : Nat) : En → Heap → (Exit → En → Heap → Option (PV × Heap)) → Option (PV × Heap) := bodyAt prog gl O13 DS f27 2 0 fl pXs
noncomputable abbrev kXo (fl : Nat) := kAt prog gl O13 DS f27 2 0 fl pXs
abbrev hXo (n : Nat) (b : Nat → ByteArray) (J : Nat → Nat → PS) (v : ByteArray) (i : Int) : En := [(8, none, i64 i), (7, none, i64 n), (4, none, i64 0), (0, none, .one (.view n 1 (rt b J))), (1, none, .one (.str v))]
theorem xo_pre (fl n : Nat) (b : Nat → ByteArray) (J : Nat → Nat → PS) (v : ByteArray) : callF prog gl DS fl O13 0 27 [.one (.view n 1 (rt b J)), .one (.str v)] [] = (rounds (yXo fl) (kXo fl) fl ([((8 : Nat), none, i64 ((0 : Int))), ((7 : Nat), none, i64 ((↑n : Int))), ((4 : Nat), none, i64 ((0 : Int))), ((0 : Nat), none, PV.one (PS.view n (1 : Nat) (rt b J))), ((1 : Nat), none, PV.one (PS.str v))]) ([])) := by kernel_rfl
theorem xo_st (fl mm n : Nat) (b : Nat → ByteArray) (J : Nat → Nat → PS) (v : ByteArray) (i : Int) : rounds (yXo fl) (kXo fl) (mm + 1) (hXo n b J v i) (tIs n b J) = (if (decide (i < (↑n : Int))) = true then (chk true (decide ((0 : Int) ≤ i) && decide (i < (↑n : Int))) (if (strEq v (b i.toNat)) = true then (some ((i64 (i), []))) else (rounds (yXo fl) (kXo fl) mm ([((8 : Nat), none, i64 ((W (i + (1 : Int))))), ((7 : Nat), none, i64 ((↑n : Int))), ((4 : Nat), none, i64 ((0 : Int))), ((0 : Nat), none, PV.one (PS.view n (1 : Nat) (rt b J))), ((1 : Nat), none, PV.one (PS.str v))]) ([])))) else (some ((i64 ((-1 : Int)), [])))) := by kernel_rfl
theorem xn_raw (v : ByteArray) : callF prog gl DS 1 O13 0 27 [.one .nils, .one (.str v)] [] = (some ((i64 ((-1 : Int)), []))) := by kernel_rfl
def q_six (b : Nat → ByteArray) (v : ByteArray) : Nat → Nat → Int
  | 0, _ => -1
  | r + 1, i => if strEq v (b i) = true then (i : Int) else q_six b v r (i + 1)
theorem six_no {b : Nat → ByteArray} {v : ByteArray} : ∀ (r i : Nat), (∀ k, k < i + r → b k ≠ v) → q_six b v r i = -1 := by
  intro r
  induction r with
  | zero => exact fun i _ => rfl
  | succ r ih =>
    intro i h
    unfold q_six
    rw [if_neg (fun e => h i (by omega) (strEq_iff.1 e).symm)]
    exact ih (i + 1) (fun k hk => h k (by omega))
theorem six_yes {b : Nat → ByteArray} {v : ByteArray} : ∀ (r i : Nat) (k : Nat), i ≤ k → k < i + r → b k = v → 0 ≤ q_six b v r i := by
  intro r
  induction r with
  | zero => intro i k h1 h2 _; omega
  | succ r ih =>
    intro i k h1 h2 hv
    unfold q_six
    split
    · omega
    · rename_i e
      by_cases h : k = i
      · subst h; exact absurd (strEq_iff.2 hv.symm) e
      · exact ih (i + 1) k (by omega) (by omega) hv
theorem six_cg {b b' : Nat → ByteArray} {v : ByteArray} : ∀ (r i : Nat), (∀ k, k < i + r → b k = b' k) → q_six b v r i = q_six b' v r i := by
  intro r
  induction r with
  | zero => exact fun i _ => rfl
  | succ r ih =>
    intro i h
    unfold q_six
    rw [h i (by omega), ih (i + 1) (fun k hk => h k (by omega))]
theorem xo_loop (fl n : Nat) (hn : n ≤ 1000000) (b : Nat → ByteArray) (J : Nat → Nat → PS) (v : ByteArray) : ∀ (r i m : Nat), i + r = n → r < m → rounds (yXo fl) (kXo fl) m (hXo n b J v (i : Nat)) (tIs n b J) = some (i64 (q_six b v r i), tIs n b J) := by
  intro r
  induction r with
  | zero =>
    intro i m hi hm
    obtain ⟨m, rfl⟩ : ∃ m', m = m' + 1 := ⟨m - 1, by omega⟩
    rw [xo_st, if_neg (by simp <;> omega)]
    rfl
  | succ r ih =>
    intro i m hi hm
    obtain ⟨m, rfl⟩ : ∃ m', m = m' + 1 := ⟨m - 1, by omega⟩
    rw [xo_st, if_pos (by simp <;> omega), chk_true (by simp <;> omega), Int.toNat_natCast]
    unfold q_six
    by_cases e : strEq v (b i) = true
    · rw [if_pos e, if_pos e]
    · rw [if_neg e, if_neg e, W_nat (by omega)]
      exact ih (i + 1) m (by omega) (by omega)
def q_isT (row : Nat → Nat → PS) : Prop := ∃ b J, row = rt b J
def q_tb (n : Nat) (row : Nat → Nat → PS) : Nat → ByteArray := fun i => if i < n then q_gs (row i 0) else ByteArray.empty
theorem tb_rt {n : Nat} {b : Nat → ByteArray} {J : Nat → Nat → PS} {i : Nat} (h : i < n) : q_tb n (rt b J) i = b i := by
  unfold q_tb
  rw [if_pos h]
  rfl
noncomputable def O14 : Orac := addM 27 (fun nb vs H => match nb, vs, H with
  | 0, [.one (.view n 1 row), .one (.str v)], [] => some (q_dec (q_isT row ∧ n ≤ 100000), i64 (q_six (q_tb n row) v n 0), [])
  | 0, [.one .nils, .one (.str v)], [] => some (true, i64 (-1), [])
  | _, _, _ => none) O13
theorem sO14 : Sound prog gl O14 := add_ok (D := DS) sO13 sO13 mo (fun nb vs H v H' h => by
  split at h
  · rename_i n row x
    obtain ⟨h1, h2, h3⟩ : q_dec (q_isT row ∧ n ≤ 100000) = true ∧ i64 (q_six (q_tb n row) x n 0) = v ∧ [] = H' := by simpa using h
    subst h2 h3
    obtain ⟨⟨b, J, rfl⟩, hn⟩ := q_dec_iff.1 h1
    refine ⟨n + 1, (xo_pre (n + 1) n b J x).trans ?_⟩
    refine (xo_loop (n + 1) n (by omega) b J x n 0 (n + 1) (by omega) (by omega)).trans ?_
    rw [six_cg (b' := b) n 0 (fun k hk => tb_rt (by omega))]
  · rename_i x
    obtain ⟨h2, h3⟩ : i64 (-1) = v ∧ [] = H' := by simpa using h
    subst h2 h3
    exact ⟨1, xn_raw x⟩
  · cases h)
theorem co_raw (n : Nat) (row : Nat → Nat → PS) (v : ByteArray) : callF prog gl DS 1 O14 0 11 [.one (.view n 1 row), .one (.str v)] [] = (if (q_dec (q_isT row ∧ n ≤ (100000 : Nat))) = true then (some ((PV.one (PS.bool (decide (q_six (q_tb n row) v n (0 : Nat) ≥ (0 : Int)))), []))) else none) := by kernel_rfl
theorem cn_raw (v : ByteArray) : callF prog gl DS 1 O14 0 11 [.one .nils, .one (.str v)] [] = (some ((PV.one (PS.bool false), []))) := by kernel_rfl
noncomputable def O15 : Orac := addM 11 (fun nb vs H => match nb, vs, H with
  | 0, [.one (.view n 1 row), .one (.str v)], [] => some (q_dec (q_isT row ∧ n ≤ 100000), bl (decide (q_six (q_tb n row) v n 0 ≥ 0)), [])
  | 0, [.one .nils, .one (.str v)], [] => some (true, bl false, [])
  | _, _, _ => none) O14
theorem sO15 : Sound prog gl O15 := add_ok (D := DS) sO14 sO14 mo (fun nb vs H v H' h => by
  split at h
  · rename_i n row x
    obtain ⟨h1, h2, h3⟩ : q_dec (q_isT row ∧ n ≤ 100000) = true ∧ bl (decide (q_six (q_tb n row) x n 0 ≥ 0)) = v ∧ [] = H' := by simpa using h
    subst h2 h3
    exact ⟨1, (co_raw n row x).trans (if_pos h1)⟩
  · rename_i x
    obtain ⟨h2, h3⟩ : bl false = v ∧ [] = H' := by simpa using h
    subst h2 h3
    exact ⟨1, cn_raw x⟩
  · cases h)
end Go.Proofs.Ytobfnncpjkeloaa.Sh
