import Derived.Test.YtlhgmlfhlbmjpaaTlD
namespace Go.Proofs.Ytlhgmlfhlbmjpaa.Sh
open Go Go.RowKit Go.Proofs.Ytlhgmlfhlbmjpaa.Ev Go.Proofs.Try
set_option maxRecDepth 100000
set_option linter.unusedVariables false
/-- The first row with a number, from one on. -/
def q_ixF (B : Nat → Nat → Int) (v : Int) : Nat → Nat → Int
  | 0, _ => -1
  | r + 1, i => if B i 0 = v then i else q_ixF B v r (i + 1)
def q_ix (n : Nat) (B : Nat → Nat → Int) (v : Int) : Int := q_ixF B v n 0
theorem ix_loop (fl n : Nat) (hn : n ≤ 1000000) (B : Nat → Nat → Int) (J : Nat → Nat → PS) (v e1 e2 e3 e4 e5 e6 : Int) : ∀ (r i m : Nat), i + r = n → r < m → rounds (yIx fl) (kIx fl) m (hIx n (i : Nat)) [(0, .rows 35 4 n (rj 4 B J)), (1, bx7 v e1 e2 e3 e4 e5 e6)] = some (i64 (q_ixF B v r i), [(0, .rows 35 4 n (rj 4 B J)), (1, bx7 v e1 e2 e3 e4 e5 e6)]) := by
  intro r
  induction r with
  | zero =>
    intro i m hi hm
    obtain ⟨m, rfl⟩ : ∃ m', m = m' + 1 := ⟨m - 1, by omega⟩
    rw [ix_st, if_neg (by simp <;> omega)]
    rfl
  | succ r ih =>
    intro i m hi hm
    obtain ⟨m, rfl⟩ : ∃ m', m = m' + 1 := ⟨m - 1, by omega⟩
    rw [ix_st, if_pos (by simp <;> omega), chk_true (by simp <;> omega), chk_true (by simp <;> omega), Int.toNat_natCast]
    unfold q_ixF
    by_cases e : B i 0 = v
    · rw [if_pos (by simpa using e), if_pos e]
    · rw [if_neg (by simpa using e), if_neg e, W_nat (by omega)]
      exact ih (i + 1) m (by omega) (by omega)
theorem ixF_spec (B : Nat → Nat → Int) (v : Int) : ∀ (r i : Nat), (q_ixF B v r i = -1 ∧ ∀ k, i ≤ k → k < i + r → B k 0 ≠ v) ∨ ∃ k, i ≤ k ∧ k < i + r ∧ q_ixF B v r i = k ∧ B k 0 = v ∧ ∀ k', i ≤ k' → k' < k → B k' 0 ≠ v := by
  intro r
  induction r with
  | zero => intro i; exact .inl ⟨rfl, fun k h1 h2 => absurd h2 (by omega)⟩
  | succ r ih =>
    intro i
    unfold q_ixF
    by_cases e : B i 0 = v
    · rw [if_pos e]; exact .inr ⟨i, Nat.le_refl _, by omega, rfl, e, fun k' h1 h2 => absurd h2 (by omega)⟩
    · rw [if_neg e]
      rcases ih (i + 1) with ⟨h1, h2⟩ | ⟨k, h1, h2, h3, h4, h5⟩
      · refine .inl ⟨h1, fun k h3 h4 => ?_⟩
        by_cases e2 : k = i
        · subst e2; exact e
        · exact h2 k (by omega) (by omega)
      · refine .inr ⟨k, by omega, by omega, h3, h4, fun k' h6 h7 => ?_⟩
        by_cases e2 : k' = i
        · subst e2; exact e
        · exact h5 k' (by omega) h7
noncomputable def O10 : Orac := addM 16 (fun nb vs H => match nb, vs, H with
  | 2, [.one (.os 0), .fn 30 [.ptr 1 0]], [(0, .rows 35 4 n row), (1, .box [.int .i64 v, .int .i64 e1, .int .i64 e2, .int .i64 e3, .int .i64 e4, .int .i64 e5, .int .i64 e6])] => some (q_dec (q_isJ 4 row ∧ n ≤ 1000), i64 (q_ix n (q_num n 4 row) v), [(0, .rows 35 4 n row), (1, bx7 v e1 e2 e3 e4 e5 e6)])
  | 1, [.one .nils, .fn 30 [.ptr 0 0]], [(0, .box [.int .i64 v, .int .i64 e1, .int .i64 e2, .int .i64 e3, .int .i64 e4, .int .i64 e5, .int .i64 e6])] => some (true, i64 (-1), [(0, bx7 v e1 e2 e3 e4 e5 e6)])
  | _, _, _ => none) O9
theorem ixF_cut {n : Nat} {B : Nat → Nat → Int} {v : Int} : ∀ (r i : Nat), i + r ≤ n → q_ixF (cut n 4 B) v r i = q_ixF B v r i := by
  intro r
  induction r with
  | zero => intro i _; rfl
  | succ r ih =>
    intro i hi
    unfold q_ixF
    rw [cut_in (by omega) (by omega), ih (i + 1) (by omega)]
theorem sO10 : Sound prog gl O10 := add_ok (D := DS) sO9 sO9 mo (fun nb vs H v H' h => by
  split at h
  · rename_i n row x e1 e2 e3 e4 e5 e6
    obtain ⟨h1, h2, h3⟩ : q_dec (q_isJ 4 row ∧ n ≤ 1000) = true ∧ i64 (q_ix n (q_num n 4 row) x) = v ∧ [(0, OB.rows 35 4 n row), (1, bx7 x e1 e2 e3 e4 e5 e6)] = H' := by simpa using h
    subst h2 h3
    obtain ⟨⟨B, J, rfl⟩, hn⟩ := q_dec_iff.1 h1
    refine ⟨n + 1, (ix_pre (n + 1) n B J x e1 e2 e3 e4 e5 e6).trans ?_⟩
    refine (ix_loop (n + 1) n (by omega) B J x e1 e2 e3 e4 e5 e6 n 0 (n + 1) (by omega) (by omega)).trans ?_
    rw [num_rj]
    unfold q_ix
    rw [ixF_cut n 0 (by omega)]
  · rename_i x e1 e2 e3 e4 e5 e6
    obtain ⟨h2, h3⟩ : i64 (-1) = v ∧ [(0, bx7 x e1 e2 e3 e4 e5 e6)] = H' := by simpa using h
    subst h2 h3
    exact ⟨1, ix_nil x e1 e2 e3 e4 e5 e6⟩
  · cases h)
/-! the sort -/
def rowB (B : Nat → Nat → Int) (i : Nat) (l : List Int) : Nat → Nat → Int := fun i1 j => if i1 = i ∧ j < l.length then l.getD j 0 else B i1 j
theorem put_rjl (e : Nat) (B : Nat → Nat → Int) (J : Nat → Nat → PS) (i : Nat) (l : List Int) (he : l.length = e) : putRow (rj e B J) i 0 (l.map (PS.int .i64)) = rj e (rowB B i l) J := by
  funext i1 j
  rw [putRow_eq]
  unfold rj rowB
  by_cases h1 : i1 = i
  · subst h1
    by_cases hj : j < e
    · have hj' : j < l.length := by omega
      simp [hj, hj', List.getD_eq_getElem?_getD]
    · have hj' : ¬ j < l.length := by omega
      simp [hj, hj']
  · simp [h1]
def q_ls (B : Nat → Nat → Int) (k : Nat) : List Int := [B k 0, B k 1, B k 2, B k 3]
theorem ls_get {B : Nat → Nat → Int} {k f : Nat} (h : f < 4) : (q_ls B k).getD f 0 = B k f := by
  rcases (by omega : f = 0 ∨ f = 1 ∨ f = 2 ∨ f = 3) with rfl | rfl | rfl | rfl <;> rfl
/-- The same rows, in whatever order. -/
def SortP (n : Nat) (B B' : Nat → Nat → Int) : Prop := (∀ i, i < n → ∃ k, k < n ∧ ∀ f, f < 4 → B' i f = B k f) ∧ ∀ k, k < n → ∃ i, i < n ∧ ∀ f, f < 4 → B' i f = B k f
theorem SortP.refl (n : Nat) (B : Nat → Nat → Int) : SortP n B B := ⟨fun i hi => ⟨i, hi, fun _ _ => rfl⟩, fun i hi => ⟨i, hi, fun _ _ => rfl⟩⟩
theorem SortP.trans {n : Nat} {A B C : Nat → Nat → Int} (h : SortP n A B) (h2 : SortP n B C) : SortP n A C := ⟨fun i hi => by
  obtain ⟨k, hk, e1⟩ := h2.1 i hi
  obtain ⟨q, hq, e2⟩ := h.1 k hk
  exact ⟨q, hq, fun f hf => (e1 f hf).trans (e2 f hf)⟩, fun i hi => by
  obtain ⟨k, hk, e1⟩ := h.2 i hi
  obtain ⟨q, hq, e2⟩ := h2.2 k hk
  exact ⟨q, hq, fun f hf => (e2 f hf).trans (e1 f hf)⟩⟩
def swapB (B : Nat → Nat → Int) (j k : Nat) : Nat → Nat → Int := rowB (rowB B j (q_ls B k)) k (q_ls B j)
theorem swap_P {n : Nat} {B : Nat → Nat → Int} {j k : Nat} (hj : j < n) (hk : k < n) : SortP n B (swapB B j k) := by
  have e1 : ∀ f, f < 4 → swapB B j k k f = B j f := fun f hf => by
    unfold swapB
    conv => lhs; unfold rowB
    rw [if_pos ⟨rfl, hf⟩, ls_get hf]
  have e2 : ∀ f, f < 4 → j ≠ k → swapB B j k j f = B k f := fun f hf hne => by
    unfold swapB
    conv => lhs; unfold rowB
    rw [if_neg (fun h => hne h.1), if_pos ⟨rfl, hf⟩, ls_get hf]
  have e3 : ∀ i f, i ≠ j → i ≠ k → swapB B j k i f = B i f := fun i f h1 h2 => by
    unfold swapB
    conv => lhs; unfold rowB
    rw [if_neg (fun h => h2 h.1), if_neg (fun h => h1 h.1)]
  refine ⟨fun i hi => ?_, fun i hi => ?_⟩
  · by_cases c1 : i = k
    · subst c1; exact ⟨j, hj, e1⟩
    · by_cases c2 : i = j
      · subst c2; exact ⟨k, hk, fun f hf => e2 f hf c1⟩
      · exact ⟨i, hi, fun f _ => e3 i f c2 c1⟩
  · by_cases c1 : i = j
    · subst c1; exact ⟨k, hk, e1⟩
    · by_cases c2 : i = k
      · subst c2; exact ⟨j, hj, fun f hf => e2 f hf (fun h => c1 h.symm)⟩
      · exact ⟨i, hi, fun f _ => e3 i f c1 c2⟩
def Small (n : Nat) (B : Nat → Nat → Int) : Prop := ∀ i, i < n → -1000 ≤ B i 0 ∧ B i 0 ≤ 1000
theorem SortP.small {n : Nat} {A B : Nat → Nat → Int} (h : SortP n A B) (hs : Small n A) : Small n B := fun i hi => by
  obtain ⟨k, hk, e⟩ := h.1 i hi
  rw [e 0 (by omega)]; exact hs k hk
/-- A row put in its place among those ahead of it. -/
def q_in : Nat → (Nat → Nat → Int) → Nat → Nat → Int
  | 0, B => B
  | j + 1, B => if B (j + 1) 0 - B j 0 < 0 then q_in j (swapB B (j + 1) j) else B
/-- The first rows, sorted. -/
def q_so (B : Nat → Nat → Int) : Nat → Nat → Nat → Int
  | 0 => B
  | i + 1 => q_in i (q_so B i)
theorem in_P {n : Nat} : ∀ (j : Nat) (B : Nat → Nat → Int), j < n → SortP n B (q_in j B) := by
  intro j
  induction j with
  | zero => intro B _; exact SortP.refl n B
  | succ j ih =>
    intro B hj
    unfold q_in
    split
    · exact (swap_P hj (by omega)).trans (ih _ (by omega))
    · exact SortP.refl n B
theorem so_P {n : Nat} {B : Nat → Nat → Int} : ∀ i, i ≤ n → SortP n B (q_so B i) := by
  intro i
  induction i with
  | zero => intro _; exact SortP.refl n B
  | succ i ih => intro hi; exact (ih (by omega)).trans (in_P i _ (by omega))
def AgB (n : Nat) (A B : Nat → Nat → Int) : Prop := ∀ i f, i < n → f < 4 → A i f = B i f
theorem swap_ag {n : Nat} {A B : Nat → Nat → Int} (h : AgB n A B) {j k : Nat} (hj : j < n) (hk : k < n) : AgB n (swapB A j k) (swapB B j k) := by
  intro i f hi hf
  have e1 : q_ls A k = q_ls B k := by unfold q_ls; rw [h k 0 hk (by omega), h k 1 hk (by omega), h k 2 hk (by omega), h k 3 hk (by omega)]
  have e2 : q_ls A j = q_ls B j := by unfold q_ls; rw [h j 0 hj (by omega), h j 1 hj (by omega), h j 2 hj (by omega), h j 3 hj (by omega)]
  unfold swapB rowB
  rw [e1, e2]
  split
  · rfl
  · split
    · rfl
    · exact h i f hi hf
theorem in_ag {n : Nat} : ∀ (j : Nat) (A B : Nat → Nat → Int), AgB n A B → j < n → AgB n (q_in j A) (q_in j B) := by
  intro j
  induction j with
  | zero => intro A B h _; exact h
  | succ j ih =>
    intro A B h hj
    unfold q_in
    rw [h (j + 1) 0 hj (by omega), h j 0 (by omega) (by omega)]
    split
    · exact ih _ _ (swap_ag h hj (by omega)) (by omega)
    · exact h
theorem so_ag {n : Nat} {A B : Nat → Nat → Int} (h : AgB n A B) : ∀ i, i ≤ n → AgB n (q_so A i) (q_so B i) := by
  intro i
  induction i with
  | zero => intro _; exact h
  | succ i ih => intro hi; exact in_ag i _ _ (ih (by omega)) (by omega)
theorem is_in (fl mm n : Nat) (B0 : Nat → Nat → Int) (J J0 : Nat → Nat → PS) (i : Nat) (hn : n ≤ 12) (hi : i < n) : ∀ (j m1 : Nat) (B : Nat → Nat → Int), j < n → j < m1 → Small n B →
    rounds (yIs fl pIs2) (kIs2 fl mm (0 : Nat) (n : Nat) (i : Nat) (bIs n B0 J0)) m1 ((9, none, i64 (j : Nat)) :: hIs (0 : Nat) (n : Nat) (i : Nat)) (bIs n B J) = rounds (yIs fl pIs) (kIs fl) mm (hIs (0 : Nat) (n : Nat) ((i + 1 : Nat) : Int)) (bIs n (q_in j B) J) := by
  intro j
  induction j with
  | zero =>
    intro m1 B hj hm hs
    obtain ⟨m1, rfl⟩ : ∃ m', m1 = m' + 1 := ⟨m1 - 1, by omega⟩
    rw [is2_st]
    rw [decide_eq_false (show ¬ ((0 : Nat) : Int) > ((0 : Nat) : Int) by omega), chk_no rfl, chk_no rfl, chk_no rfl, chk_no rfl, if_neg (by decide), if_neg (by decide), W_nat (by omega)]
    rfl
  | succ j ih =>
    intro m1 B hj hm hsB
    obtain ⟨m1, rfl⟩ : ∃ m', m1 = m' + 1 := ⟨m1 - 1, by omega⟩
    have b1 := hsB (j + 1) hj
    have b2 := hsB j (by omega)
    have eW : W (((j + 1 : Nat) : Int) - 1) = (j : Nat) := by rw [W_id (by omega) (by omega)]; omega
    rw [is2_st]
    rw [decide_eq_true (show ((j + 1 : Nat) : Int) > ((0 : Nat) : Int) by omega), eW, Int.toNat_natCast, Int.toNat_natCast, chk_true (by simp <;> omega), chk_true (by simp <;> omega), chk_true (by simp <;> omega), chk_true (by simp <;> omega), if_pos rfl, if_pos (q_dec_iff.2 ⟨b1, b2⟩)]
    by_cases hc : B (j + 1) 0 - B j 0 < 0
    · rw [if_pos (by simpa using hc), chk_true (by simp <;> omega), chk_true (by simp <;> omega), chk_true (by simp <;> omega), chk_true (by simp <;> omega), chk_true (by simp <;> omega), if_pos (by simp <;> omega), chk_true (by simp <;> omega), if_pos (by simp <;> omega)]
      have e1 : putRow (putRow (rj 4 B J) (j + 1) 0 ((q_ls B j).map (PS.int .i64))) j 0 ((q_ls B (j + 1)).map (PS.int .i64)) = rj 4 (swapB B (j + 1) j) J := by
        rw [put_rjl 4 B J _ _ rfl, put_rjl 4 _ J _ _ rfl]; rfl
      have e2 : q_in (j + 1) B = q_in j (swapB B (j + 1) j) := by conv => lhs; unfold q_in
                                                                  rw [if_pos hc]
      rw [e2]
      refine Eq.trans ?_ (ih m1 (swapB B (j + 1) j) (by omega) (by omega) ((swap_P hj (by omega)).small hsB))
      exact congrArg (fun z => rounds (yIs fl pIs2) (kIs2 fl mm (0 : Nat) (n : Nat) (i : Nat) (bIs n B0 J0)) m1 ((9, none, i64 (j : Nat)) :: hIs (0 : Nat) (n : Nat) (i : Nat)) [(0, OB.rows 35 4 n z)]) e1
    · have e2 : q_in (j + 1) B = B := by conv => lhs; unfold q_in
                                         rw [if_neg hc]
      rw [if_neg (by simpa using hc), W_nat (by omega), e2]
theorem is_eq (n : Nat) (h0 : 0 < n) (hn : n ≤ 12) (B : Nat → Nat → Int) (J : Nat → Nat → PS) (hs : Small n B) : callF prog gl DS 14 O9 1 51 [.one (.os 0), i64 (0 : Nat), i64 n, .fn 34 []] (bIs n B J) = some (.tup [], bIs n (q_so B n) J) := by
  rw [is_pre, W_nat (by omega)]
  refine loop_ex (body := yIs 14 pIs) (K := kIs 14) (σ := Unit) (fun i _ => hIs (0 : Nat) (n : Nat) ((i : Nat) : Int)) (fun i _ => bIs n (q_so B i) J) (fun _ _ => True) n (Z := fun x => x = some (PV.tup [], bIs n (q_so B n) J)) ?_ ?_ 14 1 () (by omega) (by omega) trivial
  · intro i _ mm hi _
    refine ⟨(), trivial, ?_⟩
    rw [is_st, if_pos (by simpa using hi)]
    exact is_in 14 mm n _ J J i hn hi i 14 (q_so B i) hi (by omega) ((so_P i (by omega)).small hs)
  · intro _ mm _
    rw [is_st, if_neg (by simp)]
noncomputable def aIs : Nat → List PV → Heap → Option (Bool × PV × Heap)
  | 1, [.one (.os 0), .one (.int .i64 a), .one (.int .i64 b), .fn 34 []], [(0, .rows 35 4 n row)] => some (q_dec (0 < n ∧ n ≤ 12 ∧ a = 0 ∧ b = n ∧ q_isJ 4 row ∧ Small n (q_num n 4 row)), .tup [], [(0, .rows 35 4 n (q_row 4 (q_so (q_num n 4 row) n)))])
  | _, _, _ => none
noncomputable def O11 : Orac := addM 51 aIs O10
theorem cut_ag {n : Nat} {B : Nat → Nat → Int} : AgB n (cut n 4 B) B := fun i f hi hf => cut_in hi hf
theorem small_ag {n : Nat} {A B : Nat → Nat → Int} (h : AgB n A B) (hs : Small n A) : Small n B := fun i hi => by rw [← h i 0 hi (by omega)]; exact hs i hi
theorem sO11 : Sound prog gl O11 := add_ag (D := DS) sO10 sO9 mo (fun nb vs H v H' h => by
  unfold aIs at h
  split at h
  · rename_i a b n row
    obtain ⟨h1, h2, h3⟩ : q_dec (0 < n ∧ n ≤ 12 ∧ a = 0 ∧ b = n ∧ q_isJ 4 row ∧ Small n (q_num n 4 row)) = true ∧ .tup [] = v ∧ [(0, OB.rows 35 4 n (q_row 4 (q_so (q_num n 4 row) n)))] = H' := by simpa using h
    subst h2 h3
    obtain ⟨h0, hn, rfl, rfl, ⟨B, J, rfl⟩, hs⟩ := q_dec_iff.1 h1
    rw [num_rj] at hs
    have e := is_eq n h0 hn B J (small_ag cut_ag hs)
    refine ⟨14, _, _, e, agV_refl _, .inr ⟨0, _, 4, n, _, _, [], rfl, rfl, rj_ag (fun i f hi hf => ?_), fun p hp => nomatch hp⟩⟩
    rw [num_rj]
    exact (so_ag cut_ag n (Nat.le_refl _) i f hi hf).symm
  · cases h)
theorem pq_raw (n : Nat) (B : Nat → Nat → Int) (J : Nat → Nat → PS) (b l : Int) : callF prog gl DS 1 O11 1 40 [.one (.os 0), i64 0, i64 b, i64 l, .fn 34 []] (bIs n B J) = (if (decide (W (b - (0 : Int)) ≤ (12 : Int))) = true then (if (q_dec ((0 : Nat) < n ∧ n ≤ (12 : Nat) ∧ (0 : Int) = (0 : Int) ∧ b = (↑n : Int) ∧ q_isJ (4 : Nat) (rj (4 : Nat) B J) ∧ ∀ (i : Nat), i < n → (-1000 : Int) ≤ q_num n (4 : Nat) (rj (4 : Nat) B J) i (0 : Nat) ∧ q_num n (4 : Nat) (rj (4 : Nat) B J) i (0 : Nat) ≤ (1000 : Int))) = true then (some ((PV.tup [], [((0 : Nat), OB.rows (35 : Nat) (4 : Nat) n (q_row (4 : Nat) (q_so (q_num n (4 : Nat) (rj (4 : Nat) B J)) n)))]))) else none) else (if (l == (0 : Int)) = true then none else none)) := by kernel_rfl
end Go.Proofs.Ytlhgmlfhlbmjpaa.Sh
