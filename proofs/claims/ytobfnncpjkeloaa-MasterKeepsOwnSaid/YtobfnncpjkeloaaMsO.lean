import Derived.Test.YtobfnncpjkeloaaMsN
namespace Go.Proofs.Ytobfnncpjkeloaa.Sh
open Go Go.RowKit Go.Proofs.Ytobfnncpjkeloaa.Ev Go.Proofs.Try
set_option maxRecDepth 1000000
set_option linter.unusedVariables false
set_option linter.unusedSimpArgs false
/-! plain: valid drawings -/
structure Vd (n : Nat) (g : Nat → Nat → Int) : Prop where
  u : ∀ i j, i < n → j < n → g i 0 = g j 0 → i = j
  p : ∀ i, i < n → g i 1 = 0 ∨ ∃ j, j < i ∧ g j 0 = g i 1 ∧ g j 2 = 5
  c : ∀ i, i < n → q_c1 g i = 0
theorem vd_fd {n m : Nat} {g : Nat → Nat → Int} (h : Vd n g) (hm : m ≤ n) {k : Nat} (hk : k < m) : q_fd m g (g k 0) = k := fd_at hk rfl (fun k' hk' e => by have := h.u k' k (by omega) (by omega) e; omega)
theorem vd_pe {n : Nat} {g : Nat → Nat → Int} (h : Vd n g) : ∀ (f i m : Nat) (d : Int), i ≤ m → m ≤ n → i < n → i < f → d + i ≤ 20 → q_pe m g f (g i 1) d = 0 := by
  intro f
  induction f with
  | zero => intro i m d _ _ _ h; exact absurd h (Nat.not_lt_zero _)
  | succ f ih =>
    intro i m d hi hm hin hf hd
    unfold q_pe
    rcases h.p i hin with h0 | ⟨j, hj, h1, h2⟩
    · rw [if_pos h0]
    · by_cases h0 : g i 1 = 0
      · rw [if_pos h0]
      · rw [if_neg h0, if_neg (by omega), ← h1, vd_fd h hm (by omega), if_neg (by omega), Int.toNat_natCast, if_neg (by rw [h2]; decide)]
        exact ih j m (d + 1) (by omega) hm (by omega) (by omega) (by omega)
theorem vd_chk {n : Nat} {g : Nat → Nat → Int} (hn : n ≤ 19) (h : Vd n g) : q_chk n g = 0 := chk_ok_of (by omega) (fun i hi => by
  unfold q_ce
  rw [if_neg (by rw [h.c i hi]; decide), if_neg ?_]
  · exact vd_pe h 20 i i 1 (Nat.le_refl _) (by omega) hi (by omega) (by omega)
  · rw [twi_iff]
    rintro ⟨k, _, h3, h4⟩
    have := h.u k i (by omega) hi h4
    omega)
theorem vd_cg {n : Nat} {g g' : Nat → Nat → Int} (e : ∀ i j, i < n → j < 10 → g i j = g' i j) (h : Vd n g) : Vd n g' where
  u := fun i j hi hj q => h.u i j hi hj (by rw [e i 0 hi (by omega), e j 0 hj (by omega)]; exact q)
  p := fun i hi => by
    rcases h.p i hi with h0 | ⟨j, hj, h1, h2⟩
    · exact .inl (by rw [← e i 1 hi (by omega)]; exact h0)
    · exact .inr ⟨j, hj, by rw [← e j 0 (by omega) (by omega), ← e i 1 hi (by omega)]; exact h1, by rw [← e j 2 (by omega) (by omega)]; exact h2⟩
  c := fun i hi => by rw [← c1_cg (fun j hj => e i j hi hj)]; exact h.c i hi
theorem shG_vd (n : Nat) (hn : n ≤ 10) (g : Nat → Nat → Int) : Vd n (q_shG true g) where
  u := fun i j _ _ h => by
    have h : (i : Int) + 1 = (j : Int) + 1 := h
    omega
  p := fun i hi => by
    show q_spar g i = 0 ∨ _
    unfold q_spar
    by_cases c : (0 < i ∧ (g i 1).tmod 3 = 0) ∧ q_within (g (q_sk g i).toNat 2) 0 7 = 5
    · have := sk_in (g := g) c.1.1
      refine .inr ⟨(q_sk g i).toNat, by omega, ?_, c.2⟩
      show ((q_sk g i).toNat : Int) + 1 = (if _ then _ else _)
      rw [if_pos c]
      omega
    · exact .inl (if_neg c)
  c := fun i hi => by
    rw [c1_zero]
    have a2 := within_in (g i 2) 0 7 (by omega)
    have a3 := within_in (g i 3) (-2000) 2000 (by omega)
    have a4 := within_in (g i 4) (-2000) 2000 (by omega)
    have a5 := within_in (g i 5) 0 1500 (by omega)
    have a6 := within_in (g i 6) 0 1500 (by omega)
    have a7 := within_in (g i 7) 0 3599 (by omega)
    have a8 := within_in (g i 8) 0 11 (by omega)
    have a9 := within_in (g i 9) 0 11 (by omega)
    have e0 : q_shG true g i 0 = (i : Int) + 1 := rfl
    have e1 : q_shG true g i 1 = q_spar g i := rfl
    have e2 : q_shG true g i 2 = q_within (g i 2) 0 7 := rfl
    have e3 : q_shG true g i 3 = q_within (g i 3) (-2000) 2000 := rfl
    have e4 : q_shG true g i 4 = q_within (g i 4) (-2000) 2000 := rfl
    have e5 : q_shG true g i 5 = q_within (g i 5) 0 1500 := rfl
    have e6 : q_shG true g i 6 = q_within (g i 6) 0 1500 := rfl
    have e7 : q_shG true g i 7 = q_within (g i 7) 0 3599 := rfl
    have e8 : q_shG true g i 8 = if q_within (g i 2) 0 7 = 6 then q_within (g i 8) 0 11 else 0 := rfl
    have e9 : q_shG true g i 9 = if q_within (g i 2) 0 7 = 6 then q_within (g i 9) 0 11 else 0 := rfl
    have hp : 0 ≤ q_spar g i ∧ q_spar g i ≤ i := by
      unfold q_spar
      by_cases c : (0 < i ∧ (g i 1).tmod 3 = 0) ∧ q_within (g (q_sk g i).toNat 2) 0 7 = 5
      · have := sk_in (g := g) c.1.1
        rw [if_pos c]; omega
      · rw [if_neg c]; omega
    rw [e0, e1, e2, e3, e4, e5, e6, e7, e8, e9]
    by_cases c : q_within (g i 2) 0 7 = 6
    · rw [if_pos c, if_pos c]
      exact ⟨by omega, ⟨by omega, by omega, by omega, by omega⟩, ⟨by omega, by omega, by omega, by omega, by omega⟩, fun h => absurd c h⟩
    · rw [if_neg c, if_neg c]
      exact ⟨by omega, ⟨by omega, by omega, by omega, by omega⟩, ⟨by omega, by omega, by omega, by omega, by omega⟩, fun _ => ⟨rfl, rfl⟩⟩
theorem chk_in {n : Nat} {G g : Nat → Nat → Int} {s : Nat → Nat → ByteArray} {j : Nat → Nat → PS} (hn : n ≤ 10) (hV : Vd n G) (h : ∀ i k, i < n → k < 10 → g i k = G i k) : q_chk n (q_nu n (rwj g s j)) = 0 := by
  rw [nu_rwj, chk_cg (g' := G) (fun i k hi hk => (cutG_in hi hk).trans (h i k hi hk))]
  exact vd_chk (by omega) hV
/-! the loop that compares -/
def Frm (n : Nat) (g gf : Nat → Nat → Int) : Prop := ∀ i, i < n → (∀ j, j < 10 → gf i j = g i j) ∨ (g i 1 = 0 ∧ g i 5 = 0 ∧ g i 6 = 0 ∧ ∀ j, j < 10 → j < 3 ∨ 7 < j → gf i j = g i j)
theorem l2_loop (fl n m k : Nat) (hn : n ≤ 10) (hk : k ≤ 100000) (g gf : Nat → Nat → Int) (sx sf : Nat → Nat → ByteArray) (jx jf row2 Mr : Nat → Nat → PS) (bt : Nat → ByteArray) (nm : ByteArray) (j : Int) (hF : Frm n g gf) (hS : ∀ i, i < n → sf i 10 = sx i 10 ∧ sf i 11 = sx i 11) (hN : ∀ i, i < n → g i 1 = 0 → q_six (q_tb k (rt bt fun _ _ => .nilp)) (sx i 10) k 0 = -1) :
    ∀ (r i m1 : Nat), i + r = n → r < m1 → rounds (yL fl pL2) (kL fl pL2) m1 (hL2 n m k (rwj g sx jx) row2 (rwj gf sf jf) Mr bt nm j (i : Nat)) [] = some (bl true, []) := by
  intro r
  induction r with
  | zero =>
    intro i m1 hi h1
    obtain ⟨m1, rfl⟩ : ∃ m', m1 = m' + 1 := ⟨m1 - 1, by omega⟩
    rw [l2_st, if_neg (by simp <;> omega)]
  | succ r ih =>
    intro i m1 hi h1
    obtain ⟨m1, rfl⟩ : ∃ m', m1 = m' + 1 := ⟨m1 - 1, by omega⟩
    have hd : q_dec (q_isT (rt bt fun _ _ => .nilp) ∧ k ≤ 100000) = true := q_dec_iff.2 ⟨⟨_, _, rfl⟩, hk⟩
    have i1 := ih (i + 1) m1 (by omega) (by omega)
    obtain ⟨q1, q2⟩ := hS i (by omega)
    have t0 : strEq (sx i 10) (sx i 10) = true := strEq_iff.2 rfl
    have t1 : strEq (sx i 11) (sx i 11) = true := strEq_iff.2 rfl
    have hN' := hN i (by omega)
    rw [l2_st, if_pos (by simp <;> omega), chk_true (by simp <;> omega), chk_true (by simp <;> omega)]
    simp only [Int.toNat_natCast, W_nat (i := i) (by omega), q1, q2, t0, t1]
    rcases hF i (by omega) with hA | ⟨b1, b5, b6, hB⟩
    · simp only [hA 0 (by omega), hA 1 (by omega), hA 2 (by omega), hA 3 (by omega), hA 4 (by omega), hA 5 (by omega), hA 6 (by omega), hA 7 (by omega), hA 8 (by omega), hA 9 (by omega), beq_self_eq_true, Bool.and_self, Bool.not_true, cond_false, bne_self_eq_false]
      by_cases p : g i 1 = 0
      · have c3 : decide ((-1 : Int) ≥ 0) = false := by decide
        simp only [p, hN' p, hd, c3, beq_self_eq_true, decide_true, cond_true, cond_false, Bool.false_eq_true, if_true, if_false, ite_self]
        exact i1
      · have c3 : decide (g i 1 = 0) = false := by simp [p]
        have c4 : (g i 1 == 0) = false := by simp [p]
        simp only [c3, c4, cond_true, cond_false, Bool.false_eq_true, if_true, if_false, ite_self]
        exact i1
    · have c3 : decide ((-1 : Int) ≥ 0) = false := by decide
      have c5 : decide ((0 : Int) = 0) = true := by decide
      simp only [hB 0 (by omega) (by omega), hB 1 (by omega) (by omega), hB 2 (by omega) (by omega), hB 8 (by omega) (by omega), hB 9 (by omega) (by omega), hN' b1, b1, b5, b6, hd, c3, c5, beq_self_eq_true, Bool.and_self, Bool.not_true, cond_false, cond_true, bne_self_eq_false, Bool.false_eq_true, if_true, if_false]
      by_cases z : (bif gf i 5 != 0 then true else gf i 6 != 0) = true
      · rw [if_pos z]
        exact i1
      · have z5 : gf i 5 = 0 := by
          by_cases y : gf i 5 = 0
          · exact y
          · simp [y] at z
        have z6 : gf i 6 = 0 := by
          by_cases y : gf i 6 = 0
          · exact y
          · simp [z5, y] at z
        rw [if_neg z]
        simp only [z5, z6, c3, c5, beq_self_eq_true, Bool.and_self, Bool.not_true, cond_false, cond_true, Bool.false_eq_true, if_true, if_false]
        exact i1
end Go.Proofs.Ytobfnncpjkeloaa.Sh
