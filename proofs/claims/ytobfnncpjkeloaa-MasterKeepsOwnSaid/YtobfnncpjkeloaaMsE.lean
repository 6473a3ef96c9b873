import Derived.Test.YtobfnncpjkeloaaMsD
namespace Go.Proofs.Ytobfnncpjkeloaa.Sh
open Go Go.RowKit Go.Proofs.Ytobfnncpjkeloaa.Ev Go.Proofs.Try
set_option maxRecDepth 1000000
set_option linter.unusedVariables false
/-! what Check answers -/
def q_b1 (g : Nat → Nat → Int) (i : Nat) : Bool := decide (g i 2 < 0) || decide (g i 2 > 7)
def q_b2 (g : Nat → Nat → Int) (i : Nat) : Bool := decide (g i 0 < 1) || decide (g i 0 > 1073741824) || decide (g i 1 < 0) || decide (g i 1 > 1073741824) || decide (g i 8 < 0) || decide (g i 8 > 1073741824) || decide (g i 9 < 0) || decide (g i 9 > 1073741824)
def q_b3 (g : Nat → Nat → Int) (i : Nat) : Bool := decide (g i 3 < -1048576) || decide (g i 3 > 1048576) || decide (g i 4 < -1048576) || decide (g i 4 > 1048576) || decide (g i 5 < 0) || decide (g i 5 > 1048576) || decide (g i 6 < 0) || decide (g i 6 > 1048576) || decide (g i 7 < 0) || decide (g i 7 ≥ 3600)
def q_b4 (g : Nat → Nat → Int) (i : Nat) : Bool := g i 2 != 6 && (g i 8 != 0 || g i 9 != 0)
def q_c1 (g : Nat → Nat → Int) (i : Nat) : Int := if q_b1 g i = true then 8 else if q_b2 g i = true then 2 else if q_b3 g i = true then 2 else if q_b4 g i = true then 4 else 0
/-- Does a number of column 0 stand ahead? -/
def q_twi (g : Nat → Nat → Int) (v : Int) : Nat → Nat → Bool
  | 0, _ => false
  | r + 1, j => g j 0 == v || q_twi g v r (j + 1)
def q_ce (g : Nat → Nat → Int) (i : Nat) : Int := if q_c1 g i ≠ 0 then q_c1 g i else if q_twi g (g i 0) i 0 = true then 6 else q_pe i g 20 (g i 1) 1
def q_ck (g : Nat → Nat → Int) : Nat → Nat → Int
  | 0, _ => 0
  | r + 1, i => if q_ce g i ≠ 0 then q_ce g i else q_ck g r (i + 1)
def q_chk (n : Nat) (g : Nat → Nat → Int) : Int := if n > 1000 then 3 else q_ck g n 0
theorem twi_iff {g : Nat → Nat → Int} {v : Int} : ∀ (r j : Nat), q_twi g v r j = true ↔ ∃ k, j ≤ k ∧ k < j + r ∧ g k 0 = v := by
  intro r
  induction r with
  | zero => intro j; simp [q_twi]; intro x h1 h2; omega
  | succ r ih =>
    intro j
    unfold q_twi
    rw [Bool.or_eq_true, ih, beq_iff_eq]
    constructor
    · rintro (h | ⟨k, h1, h2, h3⟩)
      · exact ⟨j, by omega, by omega, h⟩
      · exact ⟨k, by omega, by omega, h3⟩
    · rintro ⟨k, h1, h2, h3⟩
      by_cases e : k = j
      · subst e; exact .inl h3
      · exact .inr ⟨k, by omega, by omega, h3⟩
theorem c1_zero {g : Nat → Nat → Int} {i : Nat} : q_c1 g i = 0 ↔ (0 ≤ g i 2 ∧ g i 2 ≤ 7) ∧ ((1 ≤ g i 0 ∧ g i 0 ≤ 1073741824) ∧ (0 ≤ g i 1 ∧ g i 1 ≤ 1073741824) ∧ (0 ≤ g i 8 ∧ g i 8 ≤ 1073741824) ∧ 0 ≤ g i 9 ∧ g i 9 ≤ 1073741824) ∧ ((-1048576 ≤ g i 3 ∧ g i 3 ≤ 1048576) ∧ (-1048576 ≤ g i 4 ∧ g i 4 ≤ 1048576) ∧ (0 ≤ g i 5 ∧ g i 5 ≤ 1048576) ∧ (0 ≤ g i 6 ∧ g i 6 ≤ 1048576) ∧ 0 ≤ g i 7 ∧ g i 7 < 3600) ∧ (g i 2 ≠ 6 → g i 8 = 0 ∧ g i 9 = 0) := by
  unfold q_c1 q_b1 q_b2 q_b3 q_b4
  constructor
  · intro h
    split at h
    · omega
    · rename_i h1
      split at h
      · omega
      · rename_i h2
        split at h
        · omega
        · rename_i h3
          split at h
          · omega
          · rename_i h4
            simp at h1 h2 h3 h4
            omega
  · rintro ⟨h1, h2, h3, h4⟩
    rw [if_neg (by simp; omega), if_neg (by simp; omega), if_neg (by simp; omega), if_neg (by simp; omega)]
theorem chk_ok_of {n : Nat} {g : Nat → Nat → Int} (hn : n ≤ 1000) (h : ∀ i, i < n → q_ce g i = 0) : q_chk n g = 0 := by
  unfold q_chk
  rw [if_neg (by omega)]
  have : ∀ r i, i + r = n → q_ck g r i = 0 := by
    intro r
    induction r with
    | zero => intro i _; rfl
    | succ r ih =>
      intro i hi
      unfold q_ck
      rw [if_neg (by rw [h i (by omega)]; simp), ih (i + 1) (by omega)]
  exact this n 0 (by omega)
theorem chk_ok_iff {n : Nat} {g : Nat → Nat → Int} (h : q_chk n g = 0) : n ≤ 1000 ∧ ∀ i, i < n → q_ce g i = 0 := by
  unfold q_chk at h
  split at h
  · omega
  · rename_i hn
    refine ⟨by omega, ?_⟩
    have : ∀ r i, i + r = n → q_ck g r i = 0 → ∀ k, i ≤ k → k < n → q_ce g k = 0 := by
      intro r
      induction r with
      | zero => intro i hi _ k h1 h2; omega
      | succ r ih =>
        intro i hi h k h1 h2
        unfold q_ck at h
        split at h
        · rename_i e; exact absurd h e
        · rename_i e
          by_cases c : k = i
          · subst c; simpa using e
          · exact ih (i + 1) (by omega) h k (by omega) h2
    exact fun i hi => this n 0 (by omega) h i (by omega) hi
theorem c1_cg {g g' : Nat → Nat → Int} {i : Nat} (h : ∀ j, j < 10 → g i j = g' i j) : q_c1 g i = q_c1 g' i := by
  unfold q_c1 q_b1 q_b2 q_b3 q_b4
  rw [h 0 (by omega), h 1 (by omega), h 2 (by omega), h 3 (by omega), h 4 (by omega), h 5 (by omega), h 6 (by omega), h 7 (by omega), h 8 (by omega), h 9 (by omega)]
theorem twi_cg {g g' : Nat → Nat → Int} {v : Int} : ∀ (r j : Nat), (∀ k, k < j + r → g k 0 = g' k 0) → q_twi g v r j = q_twi g' v r j := by
  intro r
  induction r with
  | zero => intro j _; rfl
  | succ r ih =>
    intro j h
    unfold q_twi
    rw [h j (by omega), ih (j + 1) (fun k hk => h k (by omega))]
theorem ce_cg {g g' : Nat → Nat → Int} {i : Nat} (h : ∀ k j, k ≤ i → j < 10 → g k j = g' k j) : q_ce g i = q_ce g' i := by
  unfold q_ce
  rw [c1_cg (fun j hj => h i j (Nat.le_refl i) hj), h i 0 (Nat.le_refl i) (by omega), h i 1 (Nat.le_refl i) (by omega), twi_cg (g' := g') i 0 (fun k hk => h k 0 (by omega) (by omega)), pe_cg (g' := g') (fun k j hk hj => h k j (by omega) hj) 20 (g' i 1) 1]
theorem ck_cg {n : Nat} {g g' : Nat → Nat → Int} (h : ∀ k j, k < n → j < 10 → g k j = g' k j) : ∀ r i, i + r ≤ n → q_ck g r i = q_ck g' r i := by
  intro r
  induction r with
  | zero => intro i _; rfl
  | succ r ih =>
    intro i hi
    unfold q_ck
    rw [ce_cg (fun k j hk hj => h k j (by omega) hj), ih (i + 1) (by omega)]
theorem chk_cg {n : Nat} {g g' : Nat → Nat → Int} (h : ∀ k j, k < n → j < 10 → g k j = g' k j) : q_chk n g = q_chk n g' := by
  unfold q_chk
  rw [ck_cg h n 0 (by omega)]
/-! its walk -/
theorem tw_loop (fl mm n : Nat) (g : Nat → Nat → Int) (sx : Nat → Nat → ByteArray) (jx : Nat → Nat → PS) (i : Nat) (hi : i < n) (hn : n ≤ 1000) (c : Nat → Int) (s1 s2 : ByteArray) : ∀ (r j m1 : Nat), j + r = i → r < m1 →
    rounds (yChk fl pTw) (kTw fl mm n (rwj g sx jx) i) m1 (hTw n i (rwj g sx jx) i (j : Nat)) [(4, .box (cel c s1 s2))] = if q_twi g (c 0) r j = true then some (i64 6, []) else if q_pe i g 20 (c 1) 1 ≠ 0 then some (i64 (q_pe i g 20 (c 1) 1), []) else rounds (yChk fl pChk) (kChk fl) mm (hChk n (rwj g sx jx) ((i + 1 : Nat) : Int)) [] := by
  intro r
  induction r with
  | zero =>
    intro j m1 hj hm
    obtain ⟨m1, rfl⟩ : ∃ m', m1 = m' + 1 := ⟨m1 - 1, by omega⟩
    have e : q_pe i (q_nu i (subRow none 0 (rwj g sx jx))) 20 (c 1) 1 = q_pe i g 20 (c 1) 1 := pe_cg (fun k j hk hj => by
      have : q_nu i (subRow none 0 (rwj g sx jx)) = cutG i g := nu_rwj
      rw [this]; exact cutG_in hk hj) 20 (c 1) 1
    rw [tw_st, if_neg (by simp <;> omega), chk_true (by simp <;> omega)]
    simp only [Int.toNat_natCast, Nat.sub_zero, e]
    rw [if_pos (q_dec_iff.2 ⟨⟨g, sx, jx, rfl⟩, by omega⟩), W_nat (by omega)]
    rw [if_neg (show ¬ q_twi g (c 0) 0 j = true by simp [q_twi])]
    by_cases h0 : q_pe i g 20 (c 1) 1 = 0
    · rw [if_neg (by simpa using h0), if_neg (by simpa using h0)]
    · rw [if_pos (by simpa using h0), if_pos h0]
  | succ r ih =>
    intro j m1 hj hm
    obtain ⟨m1, rfl⟩ : ∃ m', m1 = m' + 1 := ⟨m1 - 1, by omega⟩
    rw [tw_st, if_pos (by simp <;> omega), chk_true (by simp <;> omega), Int.toNat_natCast]
    unfold q_twi
    by_cases h0 : g j 0 = c 0
    · rw [if_pos (by simpa using h0), if_pos (by simp [h0])]
    · have e : (g j 0 == c 0) = false := beq_false_of_ne h0
      rw [if_neg (by simpa using h0), e, Bool.false_or, W_nat (by omega)]
      exact ih (j + 1) m1 (by omega) (by omega)
theorem chk_loop (fl n : Nat) (hfl : n < fl) (g : Nat → Nat → Int) (sx : Nat → Nat → ByteArray) (jx : Nat → Nat → PS) (hn : n ≤ 1000) : ∀ (r i m : Nat), i + r = n → r < m → rounds (yChk fl pChk) (kChk fl) m (hChk n (rwj g sx jx) (i : Nat)) [] = some (i64 (q_ck g r i), []) := by
  intro r
  induction r with
  | zero =>
    intro i m hi hm
    obtain ⟨m, rfl⟩ : ∃ m', m = m' + 1 := ⟨m - 1, by omega⟩
    rw [chk_st, if_neg (by simp <;> omega)]
    rfl
  | succ r ih =>
    intro i m hi hm
    obtain ⟨m, rfl⟩ : ∃ m', m = m' + 1 := ⟨m - 1, by omega⟩
    rw [chk_st, if_pos (by simp <;> omega), chk_true (by simp <;> omega)]
    simp only [Int.toNat_natCast, Bool.cond_true_left, Bool.cond_false_right]
    have e1 : (decide (g i 2 < 0) || decide (g i 2 > 7)) = q_b1 g i := rfl
    have e2 : (decide (g i 0 < 1) || decide (g i 0 > 1073741824) || decide (g i 1 < 0) || decide (g i 1 > 1073741824) || decide (g i 8 < 0) || decide (g i 8 > 1073741824) || decide (g i 9 < 0) || decide (g i 9 > 1073741824)) = q_b2 g i := rfl
    have e3 : (decide (g i 3 < -1048576) || decide (g i 3 > 1048576) || decide (g i 4 < -1048576) || decide (g i 4 > 1048576) || decide (g i 5 < 0) || decide (g i 5 > 1048576) || decide (g i 6 < 0) || decide (g i 6 > 1048576) || decide (g i 7 < 0) || decide (g i 7 ≥ 3600)) = q_b3 g i := rfl
    have e4 : (g i 2 != 6 && (g i 8 != 0 || g i 9 != 0)) = q_b4 g i := rfl
    rw [e1, e2, e3, e4]
    have hck : q_ck g (r + 1) i = if q_ce g i ≠ 0 then q_ce g i else q_ck g r (i + 1) := rfl
    by_cases h1 : q_b1 g i = true
    · have e : q_ce g i = 8 := by unfold q_ce q_c1; simp [h1]
      rw [if_pos h1, hck, e]; rfl
    · rw [if_neg h1]
      by_cases h2 : q_b2 g i = true
      · have e : q_ce g i = 2 := by unfold q_ce q_c1; simp [h1, h2]
        rw [if_pos h2, hck, e]; rfl
      · rw [if_neg h2]
        by_cases h3 : q_b3 g i = true
        · have e : q_ce g i = 2 := by unfold q_ce q_c1; simp [h1, h2, h3]
          rw [if_pos h3, hck, e]; rfl
        · rw [if_neg h3]
          by_cases h4 : q_b4 g i = true
          · have e : q_ce g i = 4 := by unfold q_ce q_c1; simp [h1, h2, h3, h4]
            rw [if_pos h4, hck, e]; rfl
          · rw [if_neg h4, chk_true (by simp <;> omega), Nat.sub_zero]
            have e0 : q_c1 g i = 0 := by unfold q_c1; simp [h1, h2, h3, h4]
            refine (tw_loop fl m n g sx jx i (by omega) hn (g i) (sx i 10) (sx i 11) i 0 fl (by omega) (by omega)).trans ?_
            by_cases h5 : q_twi g (g i 0) i 0 = true
            · have e : q_ce g i = 6 := by unfold q_ce; rw [e0]; simp [h5]
              rw [if_pos h5, hck, e]; rfl
            · have e : q_ce g i = q_pe i g 20 (g i 1) 1 := by unfold q_ce; rw [e0]; simp [h5]
              rw [if_neg h5, hck, e]
              by_cases h6 : q_pe i g 20 (g i 1) 1 = 0
              · rw [if_neg (by simpa using h6), if_neg (by simpa using h6)]
                exact ih (i + 1) m (by omega) (by omega)
              · rw [if_pos h6, if_pos h6]
theorem chk_eq (n : Nat) (hn : n ≤ 100000) (g : Nat → Nat → Int) (sx : Nat → Nat → ByteArray) (jx : Nat → Nat → PS) : callF prog gl noD (n + 1) O7 0 24 [.one (.view n 12 (rwj g sx jx))] [] = some (i64 (q_chk n g), []) := by
  rw [chk_pre]
  unfold q_chk
  by_cases h : n > 1000
  · rw [if_pos (by simp <;> omega), if_pos h]
  · rw [if_neg (by simp <;> omega), if_neg h]
    exact chk_loop (n + 1) n (by omega) g sx jx (by omega) n 0 (n + 1) (by omega) (by omega)
noncomputable def O8 : Orac := addM 24 (fun nb vs H => match nb, vs, H with
  | 0, [.one (.view n 12 row)], [] => some (q_dec (q_isRw row ∧ n ≤ 100000), i64 (q_chk n (q_nu n row)), [])
  | _, _, _ => none) O7
theorem sO8 : Sound prog gl O8 := add_ok (D := noD) sO7 sO7 mo (fun nb vs H v H' h => by
  split at h
  · rename_i n row
    obtain ⟨h1, h2, h3⟩ : q_dec (q_isRw row ∧ n ≤ 100000) = true ∧ i64 (q_chk n (q_nu n row)) = v ∧ [] = H' := by simpa using h
    subst h2 h3
    obtain ⟨⟨g, sx, jx, rfl⟩, hn⟩ := q_dec_iff.1 h1
    rw [nu_rwj, chk_cg (g' := g) (fun k j hk hj => cutG_in hk hj)]
    exact ⟨n + 1, chk_eq n hn g sx jx⟩
  · cases h)
end Go.Proofs.Ytobfnncpjkeloaa.Sh
