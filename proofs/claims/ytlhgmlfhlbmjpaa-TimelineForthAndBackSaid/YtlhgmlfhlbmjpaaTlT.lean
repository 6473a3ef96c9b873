import Derived.Test.YtlhgmlfhlbmjpaaTlS
namespace Go.Proofs.Ytlhgmlfhlbmjpaa.Sh
open Go Go.RowKit Go.Proofs.Ytlhgmlfhlbmjpaa.Ev Go.Proofs.Try
set_option maxRecDepth 100000
set_option linter.unusedVariables false
/-! what State shows of the effects ahead of the first click, and of all -/
theorem ts_mono {g : Nat → Nat → Int} {i : Nat} : ∀ d, (q_ts g i).1 ≤ (q_ts g (i + d)).1 := by
  intro d
  induction d with
  | zero => exact Int.le_refl _
  | succ d ih =>
    rw [← Nat.add_assoc]
    simp only [q_ts]
    split
    · exact Int.le_trans ih (by show _ ≤ (q_ts g (i + d)).1 + 1; omega)
    · split <;> exact ih
theorem sx_pc {g : Nat → Nat → Int} {p p' : Nat → Int} {n : Nat} (h : ∀ i, i < n → p i = p' i) (o : Nat) (v : Int) : ∀ i, i ≤ n → q_sx g p o v i = q_sx g p' o v i := by
  intro i
  induction i with
  | zero => intro _; rfl
  | succ i ih => intro hi; simp only [q_sx]; rw [ih (by omega), h i (by omega)]
theorem se_pc {g : Nat → Nat → Int} {p p' : Nat → Int} {n : Nat} (h : ∀ i, i < n → p i = p' i) (v : Int) : ∀ i, i ≤ n → q_se g p v i = q_se g p' v i := by
  intro i
  induction i with
  | zero => intro _; rfl
  | succ i ih => intro hi; simp only [q_se]; rw [ih (by omega), h i (by omega)]
theorem sx_late {g : Nat → Nat → Int} {p : Nat → Int} {k : Nat} (h : ∀ i, k ≤ i → p i = 0) (o : Nat) (v : Int) : ∀ d, q_sx g p o v (k + d) = q_sx g p o v k := by
  intro d
  induction d with
  | zero => rfl
  | succ d ih =>
    rw [← Nat.add_assoc]
    simp only [q_sx]
    rw [ih, h (k + d) (by omega)]
    have : q_pt (g (k + d) o) 0 = 0 := by unfold q_pt; rw [Int.mul_zero]; rfl
    rw [this]
    split <;> omega
theorem kn_late {g : Nat → Nat → Int} {v : Int} {k : Nat} (h : q_kn g v k = true) : ∀ d, q_kn g v (k + d) = true := by
  intro d
  induction d with
  | zero => exact h
  | succ d ih =>
    rw [← Nat.add_assoc]
    simp only [q_kn]
    split
    · rfl
    · exact ih
theorem se_late {g : Nat → Nat → Int} {p : Nat → Int} {v : Int} {k : Nat} (hk : q_kn g v k = true) (h : ∀ i, k ≤ i → p i = 0) : ∀ d, q_se g p v (k + d) = q_se g p v k := by
  intro d
  induction d with
  | zero => rfl
  | succ d ih =>
    rw [← Nat.add_assoc]
    simp only [q_se]
    rw [ih, h (k + d) (by omega), kn_late hk d]
    split
    · unfold q_s1
      rw [if_neg (fun e => absurd e.2 (by omega)), if_neg (fun e => absurd e.2 (by omega))]
      unfold q_s0
      rw [if_neg (fun e => by cases e.1)]
    · rfl
theorem kn_of {g : Nat → Nat → Int} {v : Int} {j : Nat} : ∀ i, j < i → g j 0 = v ∧ g j 1 ≠ 2 → q_kn g v i = true := by
  intro i
  induction i with
  | zero => intro h; omega
  | succ i ih =>
    intro hj h
    simp only [q_kn]
    by_cases e : j = i
    · subst e; rw [if_pos h]
    · rw [ih (by omega) h]; split <;> rfl
theorem kxF_ge {B : Nat → Nat → Int} {v : Int} : ∀ (r i : Nat), 0 ≤ q_kxF B v r i → ∃ j, i ≤ j ∧ j < i + r ∧ B j 0 = v ∧ B j 1 ≠ 2 := by
  intro r
  induction r with
  | zero => intro i h; have h : (0 : Int) ≤ -1 := h; omega
  | succ r ih =>
    intro i h
    unfold q_kxF at h
    split at h
    · rename_i e; exact ⟨i, by omega, by omega, e⟩
    · obtain ⟨j, h1, h2, h3⟩ := ih (i + 1) h
      exact ⟨j, by omega, by omega, h3⟩
/-- An item's state in State's answer. -/
theorem st_row_of {n : Nat} {g : Nat → Nat → Int} {c a : Int} {i : Nat} (hi : i < q_sn n g) : ∃ v, v ∈ q_ol g n ∧ ∀ f, f < 4 → q_st n g c a i f = (q_it g (q_pr n (q_tm g) c a) n v).getD f 0 := by
  obtain ⟨k, hk, e⟩ := (so_P (n := q_sn n g) (B := q_sB g (q_pr n (q_tm g) c a) n (q_ol g n)) (q_sn n g) (Nat.le_refl _)).1 i hi
  have hk' : k < (q_ol g n).length := hk
  refine ⟨(q_ol g n)[k], List.getElem_mem _, fun f hf => ?_⟩
  have := e f hf
  unfold q_st
  rw [this]
  unfold q_sB
  rw [getD_lt hk']
theorem st_has {n : Nat} {g : Nat → Nat → Int} {c a : Int} {v : Int} (hv : v ∈ q_ol g n) : ∃ i, i < q_sn n g ∧ q_st n g c a i 0 = v := by
  obtain ⟨k, hk, rfl⟩ := List.getElem_of_mem hv
  obtain ⟨i, hi, e⟩ := (so_P (n := q_sn n g) (B := q_sB g (q_pr n (q_tm g) c a) n (q_ol g n)) (q_sn n g) (Nat.le_refl _)).2 k hk
  refine ⟨i, hi, ?_⟩
  have := e 0 (by omega)
  unfold q_st
  rw [this]
  show (q_ol g n).getD k 0 = _
  exact getD_lt hk
theorem fb_law {m k : Nat} {G : Nat → Nat → Int} {x : Int} (hG : q_effP m G) (hk : k ≤ m) (hT : ∀ i, i < k → q_tm (cut m 7 G) i 0 = 0) (hT2 : k = m ∨ q_tm (cut m 7 G) k 0 ≠ 0) {i : Nat} (hi : i < q_sn k (cut k 7 G)) :
    (∃ r, r < q_sn m (cut m 7 G) ∧ q_st m (cut m 7 G) 0 x r 0 = q_st k (cut k 7 G) 0 x i 0) ∧ ∀ r, r < q_sn m (cut m 7 G) → q_st m (cut m 7 G) 0 x r 0 = q_st k (cut k 7 G) 0 x i 0 →
      q_st m (cut m 7 G) 0 x r 2 = q_st k (cut k 7 G) 0 x i 2 ∧ q_st m (cut m 7 G) 0 x r 3 = q_st k (cut k 7 G) 0 x i 3 ∧ (0 ≤ q_kxF (cut k 7 G) (q_st k (cut k 7 G) 0 x i 0) k 0 → q_st m (cut m 7 G) 0 x r 1 = q_st k (cut k 7 G) 0 x i 1) := by
  have gk : ∀ j f, j < k → f < 7 → cut k 7 G j f = G j f := fun j f h h2 => cut_in h h2
  have gm : ∀ j f, j < m → f < 7 → cut m 7 G j f = G j f := fun j f h h2 => cut_in h h2
  have agk : AgG k (cut k 7 G) (cut m 7 G) := fun j f h h2 => by rw [gk j f h h2, gm j f (by omega) h2]
  have tk : ∀ j f, j < k → q_tm (cut k 7 G) j f = q_tm (cut m 7 G) j f := fun j f h => by rw [tm_cut h, tm_cut (by omega)]
  have hp : ∀ j, j < k → q_pr k (q_tm (cut k 7 G)) 0 x j = q_pr m (q_tm (cut m 7 G)) 0 x j := fun j hj => by
    unfold q_pr
    rw [if_pos hj, if_pos (by omega), tk j 0 hj, tk j 1 hj, tk j 2 hj]
  have hlate : ∀ j, k ≤ j → q_pr m (q_tm (cut m 7 G)) 0 x j = 0 := fun j hj => by
    unfold q_pr
    split
    · rename_i hjm
      have h1 : q_tm (cut m 7 G) k 0 ≠ 0 := by
        rcases hT2 with h | h
        · omega
        · exact h
      have h2 := (tm_P (effP_cut (n := m) (m := m) (by
        refine ⟨hG.1, fun i hi => ?_⟩
        have h9 : i < m := hi
        simpa only [cut_in h9 (show 0 < 7 by omega), cut_in h9 (show 1 < 7 by omega), cut_in h9 (show 2 < 7 by omega), cut_in h9 (show 3 < 7 by omega), cut_in h9 (show 4 < 7 by omega), cut_in h9 (show 5 < 7 by omega), cut_in h9 (show 6 < 7 by omega)] using hG.2 i hi) (Nat.le_refl m))).2 k (by omega)
      have h3 : q_tm G k 0 = q_tm (cut m 7 G) k 0 := (tm_cut (by omega)).symm
      have h4 : q_tm (cut m 7 G) k 0 ≤ q_tm (cut m 7 G) j 0 := by
        obtain ⟨d, rfl⟩ : ∃ d, j = k + d := ⟨j - k, by omega⟩
        have := ts_mono (g := cut m 7 G) (i := k + 1) d
        rw [show k + 1 + d = k + d + 1 by omega] at this
        exact this
      have h5 : 0 < q_tm (cut m 7 G) j 0 := by rw [h3] at h2; omega
      unfold q_pg
      rw [if_neg (by omega), if_pos (.inl h5)]
    · rfl
  obtain ⟨v, hv, ei⟩ := st_row_of (c := 0) (a := x) hi
  have e0 : q_st k (cut k 7 G) 0 x i 0 = v := ei 0 (by omega)
  have e1 : q_st k (cut k 7 G) 0 x i 1 = q_se (cut k 7 G) (q_pr k (q_tm (cut k 7 G)) 0 x) v k := ei 1 (by omega)
  have e2 : q_st k (cut k 7 G) 0 x i 2 = q_sx (cut k 7 G) (q_pr k (q_tm (cut k 7 G)) 0 x) 5 v k := ei 2 (by omega)
  have e3 : q_st k (cut k 7 G) 0 x i 3 = q_sx (cut k 7 G) (q_pr k (q_tm (cut k 7 G)) 0 x) 6 v k := ei 3 (by omega)
  obtain ⟨d, hd⟩ : ∃ d, m = k + d := ⟨m - k, by omega⟩
  have sx : ∀ o, o < 7 → q_sx (cut m 7 G) (q_pr m (q_tm (cut m 7 G)) 0 x) o v m = q_sx (cut k 7 G) (q_pr k (q_tm (cut k 7 G)) 0 x) o v k := fun o ho => by
    have a1 := sx_late (g := cut m 7 G) hlate o v d
    rw [← hd] at a1
    rw [a1, ← sx_cg agk _ ho v k (Nat.le_refl k), sx_pc hp o v k (Nat.le_refl k)]
  rw [e0, e1, e2, e3]
  refine ⟨?_, fun r hr hr0 => ?_⟩
  · obtain ⟨j, hj, hjv⟩ := ol_from k hv
    rw [agk j 0 hj (by omega)] at hjv
    have := ol_mem (g := cut m 7 G) (j := j) m (by omega)
    rw [hjv] at this
    exact st_has this
  · obtain ⟨u, hu, er⟩ := st_row_of (c := 0) (a := x) hr
    have r0 : q_st m (cut m 7 G) 0 x r 0 = u := er 0 (by omega)
    rw [r0] at hr0
    subst hr0
    have r1 : q_st m (cut m 7 G) 0 x r 1 = q_se (cut m 7 G) (q_pr m (q_tm (cut m 7 G)) 0 x) u m := er 1 (by omega)
    have r2 : q_st m (cut m 7 G) 0 x r 2 = q_sx (cut m 7 G) (q_pr m (q_tm (cut m 7 G)) 0 x) 5 u m := er 2 (by omega)
    have r3 : q_st m (cut m 7 G) 0 x r 3 = q_sx (cut m 7 G) (q_pr m (q_tm (cut m 7 G)) 0 x) 6 u m := er 3 (by omega)
    rw [r1, r2, r3]
    refine ⟨sx 5 (by omega), sx 6 (by omega), fun h => ?_⟩
    obtain ⟨j, _, hj, h5, h6⟩ := kxF_ge k 0 h
    have hj : j < k := by omega
    rw [agk j 0 hj (by omega)] at h5
    rw [agk j 1 hj (by omega)] at h6
    have hkn : q_kn (cut m 7 G) u k = true := kn_of k hj ⟨h5, h6⟩
    have a1 := se_late hkn hlate d
    rw [← hd] at a1
    rw [a1, ← se_cg agk _ u k (Nat.le_refl k), se_pc hp u k (Nat.le_refl k)]
end Go.Proofs.Ytlhgmlfhlbmjpaa.Sh
