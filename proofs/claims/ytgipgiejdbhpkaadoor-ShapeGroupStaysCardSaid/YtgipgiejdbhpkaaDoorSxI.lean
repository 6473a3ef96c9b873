import Derived.Test.YtgipgiejdbhpkaaDoorSxH
namespace Go.Proofs.YtgipgiejdbhpkaaDoor.Sh
open Go Go.RowKit Go.Proofs.YtgipgiejdbhpkaaDoor.Ev Go.Proofs.Tryd
set_option maxRecDepth 1000000
set_option linter.unusedVariables false
def q_ci : PS → Int
  | .int _ x => x
  | _ => 0
def q_isJ (e : Nat) (row : Nat → Nat → PS) : Prop := ∃ B J, row = rj e B J
def q_num (n e : Nat) (row : Nat → Nat → PS) : Nat → Nat → Int := fun i j => if i < n ∧ j < e then q_ci (row i j) else 0
def cut (n e : Nat) (B : Nat → Nat → Int) : Nat → Nat → Int := fun i j => if i < n ∧ j < e then B i j else 0
theorem num_rj {n e : Nat} {B : Nat → Nat → Int} {J : Nat → Nat → PS} : q_num n e (rj e B J) = cut n e B := by
  funext i j
  unfold q_num cut rj
  by_cases h : i < n ∧ j < e
  · rw [if_pos h, if_pos h, if_pos h.2]; rfl
  · rw [if_neg h, if_neg h]
theorem cut_in {n e : Nat} {B : Nat → Nat → Int} {i j : Nat} (hi : i < n) (hj : j < e) : cut n e B i j = B i j := if_pos ⟨hi, hj⟩
def q_row (e : Nat) (B : Nat → Nat → Int) : Nat → Nat → PS := rj e B (fun _ _ => .nilp)
theorem rj_ag {n e : Nat} {B B' : Nat → Nat → Int} {J : Nat → Nat → PS} (h : ∀ i j, i < n → j < e → B i j = B' i j) : ∀ i j, i < n → j < e → agS (rj e B J i j) (q_row e B' i j) := fun i j hi hj => .of_eq (by unfold q_row; rw [rj_in hj, rj_in hj, h i j hi hj])
/-! the sort of a short row -/
def swapB (B : Nat → Nat → Int) (j k : Nat) : Nat → Nat → Int := putB (putB B j 0 (B k 0)) k 0 (B j 0)
/-- The same numbers, in whatever order. -/
def SortP (n : Nat) (B B' : Nat → Nat → Int) : Prop := (∀ i, i < n → ∃ k, k < n ∧ B' i 0 = B k 0) ∧ ∀ k, k < n → ∃ i, i < n ∧ B' i 0 = B k 0
theorem SortP.refl (n : Nat) (B : Nat → Nat → Int) : SortP n B B := ⟨fun i hi => ⟨i, hi, rfl⟩, fun i hi => ⟨i, hi, rfl⟩⟩
theorem SortP.trans {n : Nat} {A B C : Nat → Nat → Int} (h : SortP n A B) (h2 : SortP n B C) : SortP n A C := ⟨fun i hi => by
  obtain ⟨k, hk, e1⟩ := h2.1 i hi
  obtain ⟨q, hq, e2⟩ := h.1 k hk
  exact ⟨q, hq, e1.trans e2⟩, fun i hi => by
  obtain ⟨k, hk, e1⟩ := h.2 i hi
  obtain ⟨q, hq, e2⟩ := h2.2 k hk
  exact ⟨q, hq, e2.trans e1⟩⟩
theorem swap_at {B : Nat → Nat → Int} {j k i : Nat} : swapB B j k i 0 = if i = k then B j 0 else if i = j then B k 0 else B i 0 := by
  unfold swapB putB
  by_cases h : i = k
  · simp [h]
  · by_cases h2 : i = j
    · subst h2; simp [h]
    · simp [h, h2]
theorem swap_P {n : Nat} {B : Nat → Nat → Int} {j k : Nat} (hj : j < n) (hk : k < n) : SortP n B (swapB B j k) := by
  refine ⟨fun i hi => ?_, fun i hi => ?_⟩
  · rw [swap_at]
    split
    · exact ⟨j, hj, rfl⟩
    · split
      · exact ⟨k, hk, rfl⟩
      · exact ⟨i, hi, rfl⟩
  · by_cases h : i = j
    · subst h; exact ⟨k, hk, by rw [swap_at, if_pos rfl]⟩
    · by_cases h2 : i = k
      · subst h2
        by_cases h3 : j = i
        · subst h3; exact ⟨j, hj, by rw [swap_at, if_pos rfl]⟩
        · exact ⟨j, hj, by rw [swap_at, if_neg h3, if_pos rfl]⟩
      · exact ⟨i, hi, by rw [swap_at, if_neg h2, if_neg h]⟩
def q_in : Nat → (Nat → Nat → Int) → Nat → Nat → Int
  | 0, B => B
  | j + 1, B => if B (j + 1) 0 < B j 0 then q_in j (swapB B (j + 1) j) else B
def q_so (B : Nat → Nat → Int) : Nat → Nat → Nat → Int
  | 0 => B
  | i + 1 => q_in i (q_so B i)
theorem in_P {n : Nat} : ∀ (j : Nat) (B : Nat → Nat → Int), j < n → SortP n B (q_in j B) := by
  intro j
  induction j with
  | zero => intro B _; exact SortP.refl n B
  | succ j ih =>
    intro B hj
    unfold q_in
    split
    · exact (swap_P hj (by omega)).trans (ih _ (by omega))
    · exact SortP.refl n B
theorem so_P {n : Nat} {B : Nat → Nat → Int} : ∀ i, i ≤ n → SortP n B (q_so B i) := by
  intro i
  induction i with
  | zero => intro _; exact SortP.refl n B
  | succ i ih => intro hi; exact (ih (by omega)).trans (in_P i _ (by omega))
def AgB (n : Nat) (A B : Nat → Nat → Int) : Prop := ∀ i, i < n → A i 0 = B i 0
theorem swap_ag {n : Nat} {A B : Nat → Nat → Int} (h : AgB n A B) {j k : Nat} (hj : j < n) (hk : k < n) : AgB n (swapB A j k) (swapB B j k) := by
  intro i hi
  rw [swap_at, swap_at, h j hj, h k hk, h i hi]
theorem in_ag {n : Nat} : ∀ (j : Nat) (A B : Nat → Nat → Int), AgB n A B → j < n → AgB n (q_in j A) (q_in j B) := by
  intro j
  induction j with
  | zero => intro A B h _; exact h
  | succ j ih =>
    intro A B h hj
    unfold q_in
    rw [h (j + 1) hj, h j (by omega)]
    split
    · exact ih _ _ (swap_ag h hj (by omega)) (by omega)
    · exact h
theorem so_ag {n : Nat} {A B : Nat → Nat → Int} (h : AgB n A B) : ∀ i, i ≤ n → AgB n (q_so A i) (q_so B i) := by
  intro i
  induction i with
  | zero => intro _; exact h
  | succ i ih => intro hi; exact in_ag i _ _ (ih (by omega)) (by omega)
theorem is_in (fl mm n : Nat) (B0 : Nat → Nat → Int) (J J0 : Nat → Nat → PS) (i : Nat) (hn : n ≤ 12) (hi : i < n) : ∀ (j m1 : Nat) (B : Nat → Nat → Int), j < n → j < m1 →
    rounds (yIs fl pIs2) (kIs2 fl mm (0 : Nat) (n : Nat) (i : Nat) (bIs n B0 J0)) m1 ((7, none, i64 (j : Nat)) :: hIs (0 : Nat) (n : Nat) (i : Nat)) (bIs n B J) = rounds (yIs fl pIs) (kIs fl) mm (hIs (0 : Nat) (n : Nat) ((i + 1 : Nat) : Int)) (bIs n (q_in j B) J) := by
  intro j
  induction j with
  | zero =>
    intro m1 B hj hm
    obtain ⟨m1, rfl⟩ : ∃ m', m1 = m' + 1 := ⟨m1 - 1, by omega⟩
    rw [is2_st]
    rw [decide_eq_false (show ¬ ((0 : Nat) : Int) > ((0 : Nat) : Int) by omega), chk_no rfl, chk_no rfl, chk_no rfl, chk_no rfl, if_neg (by decide), if_neg (by decide), W_nat (by omega)]
    rfl
  | succ j ih =>
    intro m1 B hj hm
    obtain ⟨m1, rfl⟩ : ∃ m', m1 = m' + 1 := ⟨m1 - 1, by omega⟩
    have eW : W (((j + 1 : Nat) : Int) - 1) = (j : Nat) := by rw [W_id (by omega) (by omega)]; omega
    rw [is2_st]
    rw [decide_eq_true (show ((j + 1 : Nat) : Int) > ((0 : Nat) : Int) by omega), eW, Int.toNat_natCast, Int.toNat_natCast, chk_true (by simp <;> omega), chk_true (by simp <;> omega), chk_true (by simp <;> omega), chk_true (by simp <;> omega), if_pos rfl]
    by_cases hc : B (j + 1) 0 < B j 0
    · have e2 : q_in (j + 1) B = q_in j (swapB B (j + 1) j) := by conv => lhs; unfold q_in
                                                                  rw [if_pos hc]
      rw [if_pos (by simpa using hc), chk_true (by simp <;> omega), chk_true (by simp <;> omega), chk_true (by simp <;> omega), chk_true (by simp <;> omega), chk_true (by simp <;> omega), if_pos (by simp <;> omega), chk_true (by simp <;> omega), if_pos (by simp <;> omega), put_rj 1 B J _ 0 _ (by omega), put_rj 1 _ J _ 0 _ (by omega), e2]
      exact ih m1 (swapB B (j + 1) j) (by omega) (by omega)
    · have e2 : q_in (j + 1) B = B := by conv => lhs; unfold q_in
                                         rw [if_neg hc]
      rw [if_neg (by simpa using hc), W_nat (by omega), e2]
theorem is_eq (n : Nat) (h0 : 0 < n) (hn : n ≤ 12) (B : Nat → Nat → Int) (J : Nat → Nat → PS) : callF prog gl DS 14 O11 1 36 [.one (.os 0), i64 (0 : Nat), i64 n] (bIs n B J) = some (.tup [], bIs n (q_so B n) J) := by
  rw [is_pre, W_nat (by omega)]
  refine loop_ex (body := yIs 14 pIs) (K := kIs 14) (σ := Unit) (fun i _ => hIs (0 : Nat) (n : Nat) ((i : Nat) : Int)) (fun i _ => bIs n (q_so B i) J) (fun _ _ => True) n (Z := fun x => x = some (PV.tup [], bIs n (q_so B n) J)) ?_ ?_ 14 1 () (by omega) (by omega) trivial
  · intro i _ mm hi _
    refine ⟨(), trivial, ?_⟩
    rw [is_st, if_pos (by simpa using hi)]
    exact is_in 14 mm n _ J J i hn hi i 14 (q_so B i) hi (by omega)
  · intro _ mm _
    rw [is_st, if_neg (by simp)]
def q_srP (n : Nat) (a b : Int) (row : Nat → Nat → PS) : Prop := 0 < n ∧ n ≤ 12 ∧ a = 0 ∧ b = n ∧ q_isJ 1 row
noncomputable def O12 : Orac := addM 36 (fun nb vs H => match nb, vs, H with
  | 1, [.one (.os 0), .one (.int .i64 a), .one (.int .i64 b)], [(0, .rows 3 1 n row)] => some (q_dec (q_srP n a b row), .tup [], [(0, .rows 3 1 n (q_row 1 (q_so (q_num n 1 row) n)))])
  | _, _, _ => none) O11
theorem cut_ag {n : Nat} {B : Nat → Nat → Int} : AgB n (cut n 1 B) B := fun i hi => cut_in hi (by omega)
theorem sO12 : Sound prog gl O12 := add_ag (D := DS) sO11 sO11 mo (fun nb vs H v H' h => by
  split at h
  · rename_i a b n row
    obtain ⟨h1, h2, h3⟩ : q_dec (q_srP n a b row) = true ∧ .tup [] = v ∧ [(0, OB.rows 3 1 n (q_row 1 (q_so (q_num n 1 row) n)))] = H' := by simpa using h
    subst h2 h3
    obtain ⟨h0, hn, rfl, rfl, ⟨B, J, rfl⟩⟩ := q_dec_iff.1 h1
    refine ⟨14, _, _, is_eq n h0 hn B J, agV_refl _, .inr ⟨0, _, 1, n, _, _, [], rfl, rfl, rj_ag (fun i f hi hf => ?_), fun p hp => nomatch hp⟩⟩
    obtain rfl : f = 0 := by omega
    rw [num_rj]
    exact (so_ag cut_ag n (Nat.le_refl _) i hi).symm
  · cases h)
theorem pq_raw (n : Nat) (row : Nat → Nat → PS) (b l : Int) : callF prog gl DS 1 O12 1 34 [.one (.os 0), i64 0, i64 b, i64 l] [(0, .rows 3 1 n row)] = (if (decide (W (b - (0 : Int)) ≤ (12 : Int))) = true then (if (q_dec (q_srP n (0 : Int) b row)) = true then (some ((PV.tup [], [((0 : Nat), OB.rows (3 : Nat) (1 : Nat) n (q_row (1 : Nat) (q_so (q_num n (1 : Nat) row) n)))]))) else none) else (if (l == (0 : Int)) = true then none else none)) := by kernel_rfl
noncomputable def O13 : Orac := addM 34 (fun nb vs H => match nb, vs, H with
  | 1, [.one (.os 0), .one (.int .i64 a), .one (.int .i64 b), .one (.int .i64 l)], [(0, .rows 3 1 n row)] => some (q_dec (q_srP n a b row), .tup [], [(0, .rows 3 1 n (q_row 1 (q_so (q_num n 1 row) n)))])
  | _, _, _ => none) O12
theorem sO13 : Sound prog gl O13 := add_ok (D := DS) sO12 sO12 mo (fun nb vs H v H' h => by
  split at h
  · rename_i a b l n row
    obtain ⟨h1, h2, h3⟩ : q_dec (q_srP n a b row) = true ∧ .tup [] = v ∧ [(0, OB.rows 3 1 n (q_row 1 (q_so (q_num n 1 row) n)))] = H' := by simpa using h
    subst h2 h3
    have hp := q_dec_iff.1 h1
    obtain ⟨h0, hn, rfl, rfl, hJ⟩ := hp
    refine ⟨1, (pq_raw n row n l).trans ?_⟩
    rw [if_pos (decide_eq_true (by rw [W_id (by omega) (by omega)]; omega)), if_pos (q_dec_iff.2 ⟨h0, hn, rfl, rfl, hJ⟩)]
  · cases h)
/-! bits.Len of a short length -/
theorem ln64_all : ∀ n : Nat, n ≤ 12 → callF prog gl noD 1 noM 0 46 [.one (.int .u64 n)] [] = some (i64 ([0, 1, 2, 2, 3, 3, 3, 3, 4, 4, 4, 4, 4].getD n 0), []) := fun n h => by
  rcases (by omega : n = 0 ∨ n = 1 ∨ n = 2 ∨ n = 3 ∨ n = 4 ∨ n = 5 ∨ n = 6 ∨ n = 7 ∨ n = 8 ∨ n = 9 ∨ n = 10 ∨ n = 11 ∨ n = 12) with rfl | rfl | rfl | rfl | rfl | rfl | rfl | rfl | rfl | rfl | rfl | rfl | rfl 
  · kernel_rfl
  · kernel_rfl
  · kernel_rfl
  · kernel_rfl
  · kernel_rfl
  · kernel_rfl
  · kernel_rfl
  · kernel_rfl
  · kernel_rfl
  · kernel_rfl
  · kernel_rfl
  · kernel_rfl
  · kernel_rfl
def q_bit (x : Int) : Int := [0, 1, 2, 2, 3, 3, 3, 3, 4, 4, 4, 4, 4].getD x.toNat 0
noncomputable def O14 : Orac := addM 46 (fun nb vs H => match nb, vs, H with
  | 0, [.one (.int .u64 x)], [] => some (q_dec (0 ≤ x ∧ x ≤ 12), i64 (q_bit x), [])
  | _, _, _ => none) O13
theorem sO14 : Sound prog gl O14 := add_ok (D := noD) sO13 none_ok mo (fun nb vs H v H' h => by
  split at h
  · rename_i x
    obtain ⟨h1, h2, h3⟩ : q_dec (0 ≤ x ∧ x ≤ 12) = true ∧ i64 (q_bit x) = v ∧ [] = H' := by simpa using h
    subst h2 h3
    have hx := q_dec_iff.1 h1
    obtain ⟨n, rfl⟩ : ∃ n : Nat, x = n := ⟨x.toNat, by omega⟩
    exact ⟨1, ln64_all n (by omega)⟩
  · cases h)
theorem ln_raw (x : Int) : callF prog gl noD 1 O14 0 35 [.one (.int .u64 x)] [] = (if (q_dec ((0 : Int) ≤ x ∧ x ≤ (12 : Int))) = true then (some ((i64 ((q_bit x)), []))) else none) := by kernel_rfl
noncomputable def O15 : Orac := addM 35 (fun nb vs H => match nb, vs, H with
  | 0, [.one (.int .u64 x)], [] => some (q_dec (0 ≤ x ∧ x ≤ 12), i64 (q_bit x), [])
  | _, _, _ => none) O14
theorem sO15 : Sound prog gl O15 := add_ok (D := noD) sO14 sO14 mo (fun nb vs H v H' h => by
  split at h
  · rename_i x
    obtain ⟨h1, h2, h3⟩ : q_dec (0 ≤ x ∧ x ≤ 12) = true ∧ i64 (q_bit x) = v ∧ [] = H' := by simpa using h
    subst h2 h3
    refine ⟨1, (ln_raw x).trans ?_⟩
    rw [if_pos h1]
  · cases h)
theorem sf_raw (n : Nat) (row : Nat → Nat → PS) : callF prog gl DS 1 O15 1 33 [.one (.os 0)] [(0, .rows 3 1 n row)] = (if (q_dec ((0 : Int) ≤ IntKind.u64.wrap (↑n : Int) ∧ IntKind.u64.wrap (↑n : Int) ≤ (12 : Int))) = true then (if (q_dec (q_srP n (0 : Int) (↑n : Int) row)) = true then (some ((PV.tup [], [((0 : Nat), OB.rows (3 : Nat) (1 : Nat) n (q_row (1 : Nat) (q_so (q_num n (1 : Nat) row) n)))]))) else none) else none) := by kernel_rfl
noncomputable def O16 : Orac := addM 33 (fun nb vs H => match nb, vs, H with
  | 1, [.one (.os 0)], [(0, .rows 3 1 n row)] => some (q_dec (0 < n ∧ n ≤ 12 ∧ q_isJ 1 row), .tup [], [(0, .rows 3 1 n (q_row 1 (q_so (q_num n 1 row) n)))])
  | _, _, _ => none) O15
theorem sO16 : Sound prog gl O16 := add_ok (D := DS) sO15 sO15 mo (fun nb vs H v H' h => by
  split at h
  · rename_i n row
    obtain ⟨h1, h2, h3⟩ : q_dec (0 < n ∧ n ≤ 12 ∧ q_isJ 1 row) = true ∧ .tup [] = v ∧ [(0, OB.rows 3 1 n (q_row 1 (q_so (q_num n 1 row) n)))] = H' := by simpa using h
    subst h2 h3
    obtain ⟨h0, hn, hJ⟩ := q_dec_iff.1 h1
    refine ⟨1, (sf_raw n row).trans ?_⟩
    have eu : IntKind.u64.wrap (n : Int) = n := by
      have : IntKind.u64.wrap (n : Int) = (n : Int) % 18446744073709551616 := rfl
      rw [this]; omega
    rw [eu, if_pos (q_dec_iff.2 ⟨by omega, by omega⟩), if_pos (q_dec_iff.2 ⟨h0, hn, rfl, rfl, hJ⟩)]
  · cases h)
end Go.Proofs.YtgipgiejdbhpkaaDoor.Sh
