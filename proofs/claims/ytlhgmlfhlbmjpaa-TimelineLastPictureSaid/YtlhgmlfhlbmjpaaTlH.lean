import Derived.Test.YtlhgmlfhlbmjpaaTlG
namespace Go.Proofs.Ytlhgmlfhlbmjpaa.Sh
open Go Go.RowKit Go.Proofs.Ytlhgmlfhlbmjpaa.Ev Go.Proofs.Try
set_option maxRecDepth 100000
set_option linter.unusedVariables false
theorem chk_tt {α : Type} {r : Option α} : chk true true r = r := rfl
/-- What an effect makes of an item's state. -/
def q_b1 (kind : Int) (kn : Bool) (k : Nat) (B : Nat → Nat → Int) : Nat → Nat → Int := if kn = false ∧ kind = 0 then putB B k 1 0 else B
def q_up (kind x y p : Int) (kn : Bool) (k : Nat) (B : Nat → Nat → Int) : Nat → Nat → Int :=
  if kind = 2 then putB (putB B k 2 (B k 2 + q_pt x p)) k 3 (B k 3 + q_pt y p)
  else if kind = 0 ∧ 0 < p then putB (q_b1 kind kn k B) k 1 (max (q_b1 kind kn k B k 1) p)
  else if kind = 1 ∧ 0 < p then putB (q_b1 kind kn k B) k 1 (min (q_b1 kind kn k B k 1) (1000 - p))
  else q_b1 kind kn k B
def q_ub (kind : Int) (k : Nat) (b : Nat → Bool) : Nat → Bool := if kind = 2 then b else fun i => if i = k then true else b i
theorem put_eq {B : Nat → Nat → Int} {k o : Nat} {x : Int} : putB B k o x k o = x := if_pos ⟨rfl, rfl⟩
theorem put_ne {B : Nat → Nat → Int} {k o o' : Nat} {x : Int} (h : o' ≠ o) : putB B k o x k o' = B k o' := if_neg (fun e => h e.2)
theorem f_eq (fl mm n l l0 : Nat) (g T B B0 : Nat → Nat → Int) (b b0 : Nat → Bool) (A J1 J2 K1 K2 : Nat → Nat → PS) (c a : Int) (k i : Nat) (hk : k < l) (hi : i < n) (hn : n ≤ 12) (p : Int) (hpe : q_pg (T i 0) (T i 1) (T i 2) c a = p) (hpg : q_pgP (T i 0) (T i 1) (T i 2) c a) (h5 : q_ptP (g i 5) p) (h6 : q_ptP (g i 6) p) (hb : (-100000 ≤ B k 2 ∧ B k 2 ≤ 100000) ∧ -100000 ≤ B k 3 ∧ B k 3 ≤ 100000) :
    cuSt fl (codeAt sSt cSt) (kRound (ySt fl) (kSt fl) mm (hSt n A (.os 56) (.os 59) c a i) (bRow n l0 T B0 b0 K1 K2)) (eF n A c a i k) (bx g i :: bRow n l T B b J1 J2) = rounds (ySt fl) (kSt fl) mm (hSt n A (.os 56) (.os 59) c a ((i + 1 : Nat) : Int)) (bRow n l T (q_up (g i 1) (g i 5) (g i 6) p (b k) k B) (q_ub (g i 1) k b) J1 J2) := by
  have c1 : (decide ((0 : Int) ≤ (k : Int)) && decide ((k : Int) < (l : Int))) = true := by simp <;> omega
  have c3 : decide (k < l) = true := by simp <;> omega
  have c4 : (decide ((0 : Int) ≤ (i : Int)) && decide ((i : Int) < (n : Int))) = true := by simp <;> omega
  have c5 : (decide (i < n) && true) = true := by simp <;> omega
  have p5 := pt_le h5
  have p6 := pt_le h6
  have hp : 0 ≤ p ∧ p ≤ 1000 := h5.2
  rw [s2_fnd]
  simp only [Int.toNat_natCast, hpe, c1, c3, c4, c5, chk_tt, q_dec_iff.2 hpg, q_dec_iff.2 h5, q_dec_iff.2 h6, ↓reduceIte, W_nat (show i < 9223372036854775807 by omega), Bool.true_and, beq_self_eq_true, cond_true]
  by_cases h2 : g i 1 = 2
  · have u1 : q_up (g i 1) (g i 5) (g i 6) p (b k) k B = putB (putB B k 2 (B k 2 + q_pt (g i 5) p)) k 3 (B k 3 + q_pt (g i 6) p) := if_pos h2
    have u2 : q_ub (g i 1) k b = b := if_pos h2
    rw [u1, u2, if_pos (by simpa using h2), W_id (n := B k 2 + q_pt (g i 5) p) (by omega) (by omega), W_id (n := B k 3 + q_pt (g i 6) p) (by omega) (by omega), put_rj 4 B J1 k 2 _ (by omega), put_rj 4 _ J1 k 3 _ (by omega)]
  · have u2 : q_ub (g i 1) k b = fun i => if i = k then true else b i := if_neg h2
    rw [u2, if_neg (by simpa using h2), put_rb]
    unfold q_up
    rw [if_neg h2]
    by_cases h0 : g i 1 = 0
    · have n1 : ¬ g i 1 = 1 := by omega
      cases hkn : b k with
      | false =>
        have e1 : q_b1 (g i 1) false k B = putB B k 1 0 := if_pos ⟨rfl, h0⟩
        rw [if_pos (by simp [h0]), e1, put_eq]
        by_cases hp0 : 0 < p
        · rw [if_pos (by simp [h0, hp0]), if_pos ⟨h0, hp0⟩, put_rj 4 B J1 k 1 _ (by omega), bmax, put_rj 4 _ J1 k 1 _ (by omega)]
        · rw [if_neg (by simp [h0, hp0]), if_neg (by simp [h0]), if_neg (fun h => hp0 h.2), if_neg (fun h => n1 h.1), put_rj 4 B J1 k 1 _ (by omega)]
      | true =>
        have e1 : q_b1 (g i 1) true k B = B := if_neg (fun h => by cases h.1)
        rw [if_neg (by simp), e1]
        by_cases hp0 : 0 < p
        · rw [if_pos (by simp [h0, hp0]), if_pos ⟨h0, hp0⟩, bmax, put_rj 4 _ J1 k 1 _ (by omega)]
        · rw [if_neg (by simp [h0, hp0]), if_neg (by simp [h0]), if_neg (fun h => hp0 h.2), if_neg (fun h => n1 h.1)]
    · have e1 : q_b1 (g i 1) (b k) k B = B := if_neg (fun h => h0 h.2)
      rw [if_neg (by cases b k <;> simp [h0]), e1]
      by_cases h1 : g i 1 = 1 ∧ 0 < p
      · rw [if_neg (by simp [h0]), if_pos (by simp [h1.1, h1.2]), if_neg (fun h => h0 h.1), if_pos h1, W_id (n := 1000 - p) (by omega) (by omega), bmin, put_rj 4 _ J1 k 1 _ (by omega)]
      · rw [if_neg (by simp [h0]), if_neg (by
          intro hc
          refine h1 ?_
          by_cases q : g i 1 = 1
          · rw [q] at hc; exact ⟨q, of_decide_eq_true hc⟩
          · rw [beq_false_of_ne q] at hc; cases hc), if_neg (fun h => h0 h.1), if_neg h1]
theorem a_eq (fl mm n l l0 : Nat) (g T B B0 : Nat → Nat → Int) (b b0 : Nat → Bool) (A J1 J2 K1 K2 r58 r55 : Nat → Nat → PS) (c a : Int) (k i : Nat) (hk : k < l) (hi : i < n) (hn : n ≤ 12) (p : Int) (hpe : q_pg (T i 0) (T i 1) (T i 2) c a = p) (hpg : q_pgP (T i 0) (T i 1) (T i 2) c a) (h5 : q_ptP (g i 5) p) (h6 : q_ptP (g i 6) p) (hb : (-100000 ≤ B k 2 ∧ B k 2 ≤ 100000) ∧ -100000 ≤ B k 3 ∧ B k 3 ≤ 100000) :
    cuSt fl (codeAt sSt cSt) (kRound (ySt fl) (kSt fl) mm (hSt n A (.os 56) (.os 59) c a i) (bRow n l0 T B0 b0 K1 K2)) (eA n A c a i k) (hApp n l T B b J1 J2 r58 r55 g i) = rounds (ySt fl) (kSt fl) mm (hSt n A (.os 56) (.os 59) c a ((i + 1 : Nat) : Int)) (bRow n l T (q_up (g i 1) (g i 5) (g i 6) p (b k) k B) (q_ub (g i 1) k b) J1 J2) := by
  have c1 : (decide ((0 : Int) ≤ (k : Int)) && decide ((k : Int) < (l : Int))) = true := by simp <;> omega
  have c3 : decide (k < l) = true := by simp <;> omega
  have c4 : (decide ((0 : Int) ≤ (i : Int)) && decide ((i : Int) < (n : Int))) = true := by simp <;> omega
  have c5 : (decide (i < n) && true) = true := by simp <;> omega
  have p5 := pt_le h5
  have p6 := pt_le h6
  have hp : 0 ≤ p ∧ p ≤ 1000 := h5.2
  rw [s2_app]
  simp only [Int.toNat_natCast, hpe, c1, c3, c4, c5, chk_tt, q_dec_iff.2 hpg, q_dec_iff.2 h5, q_dec_iff.2 h6, ↓reduceIte, W_nat (show i < 9223372036854775807 by omega), Bool.true_and, beq_self_eq_true, cond_true]
  by_cases h2 : g i 1 = 2
  · have u1 : q_up (g i 1) (g i 5) (g i 6) p (b k) k B = putB (putB B k 2 (B k 2 + q_pt (g i 5) p)) k 3 (B k 3 + q_pt (g i 6) p) := if_pos h2
    have u2 : q_ub (g i 1) k b = b := if_pos h2
    rw [u1, u2, if_pos (by simpa using h2), W_id (n := B k 2 + q_pt (g i 5) p) (by omega) (by omega), W_id (n := B k 3 + q_pt (g i 6) p) (by omega) (by omega), put_rj 4 B J1 k 2 _ (by omega), put_rj 4 _ J1 k 3 _ (by omega)]
  · have u2 : q_ub (g i 1) k b = fun i => if i = k then true else b i := if_neg h2
    rw [u2, if_neg (by simpa using h2), put_rb]
    unfold q_up
    rw [if_neg h2]
    by_cases h0 : g i 1 = 0
    · have n1 : ¬ g i 1 = 1 := by omega
      cases hkn : b k with
      | false =>
        have e1 : q_b1 (g i 1) false k B = putB B k 1 0 := if_pos ⟨rfl, h0⟩
        rw [if_pos (by simp [h0]), e1, put_eq]
        by_cases hp0 : 0 < p
        · rw [if_pos (by simp [h0, hp0]), if_pos ⟨h0, hp0⟩, put_rj 4 B J1 k 1 _ (by omega), bmax, put_rj 4 _ J1 k 1 _ (by omega)]
        · rw [if_neg (by simp [h0, hp0]), if_neg (by simp [h0]), if_neg (fun h => hp0 h.2), if_neg (fun h => n1 h.1), put_rj 4 B J1 k 1 _ (by omega)]
      | true =>
        have e1 : q_b1 (g i 1) true k B = B := if_neg (fun h => by cases h.1)
        rw [if_neg (by simp), e1]
        by_cases hp0 : 0 < p
        · rw [if_pos (by simp [h0, hp0]), if_pos ⟨h0, hp0⟩, bmax, put_rj 4 _ J1 k 1 _ (by omega)]
        · rw [if_neg (by simp [h0, hp0]), if_neg (by simp [h0]), if_neg (fun h => hp0 h.2), if_neg (fun h => n1 h.1)]
    · have e1 : q_b1 (g i 1) (b k) k B = B := if_neg (fun h => h0 h.2)
      rw [if_neg (by cases b k <;> simp [h0]), e1]
      by_cases h1 : g i 1 = 1 ∧ 0 < p
      · rw [if_neg (by simp [h0]), if_pos (by simp [h1.1, h1.2]), if_neg (fun h => h0 h.1), if_pos h1, W_id (n := 1000 - p) (by omega) (by omega), bmin, put_rj 4 _ J1 k 1 _ (by omega)]
      · rw [if_neg (by simp [h0]), if_neg (by
          intro hc
          refine h1 ?_
          by_cases q : g i 1 = 1
          · rw [q] at hc; exact ⟨q, of_decide_eq_true hc⟩
          · rw [beq_false_of_ne q] at hc; cases hc), if_neg (fun h => h0 h.1), if_neg h1]
theorem n_eq (fl mm n : Nat) (g T B : Nat → Nat → Int) (b : Nat → Bool) (A J1 J2 r58 r55 : Nat → Nat → PS) (c a : Int) (i : Nat) (hi : i < n) (hn : n ≤ 12) (p : Int) (hpe : q_pg (T i 0) (T i 1) (T i 2) c a = p) (hpg : q_pgP (T i 0) (T i 1) (T i 2) c a) (h5 : q_ptP (g i 5) p) (h6 : q_ptP (g i 6) p) (hb : (-100000 ≤ B 0 2 ∧ B 0 2 ≤ 100000) ∧ -100000 ≤ B 0 3 ∧ B 0 3 ≤ 100000) :
    cuSt fl (codeAt sSt cSt) (kRound (ySt fl) (kSt fl) mm (hSt n A .nils .nils c a i) [(36, .rows 44 3 n (q_row 3 T))]) (eA n A c a i 0) (hNil n T B b J1 J2 r58 r55 g i) = rounds (ySt fl) (kSt fl) mm (hSt n A (.os 56) (.os 59) c a ((i + 1 : Nat) : Int)) (bRow n 1 T (q_up (g i 1) (g i 5) (g i 6) p (b 0) 0 B) (q_ub (g i 1) 0 b) J1 J2) := by
  have c4 : (decide ((0 : Int) ≤ (i : Int)) && decide ((i : Int) < (n : Int))) = true := by simp <;> omega
  have c5 : (decide (i < n) && true) = true := by simp <;> omega
  have p5 := pt_le h5
  have p6 := pt_le h6
  have hp : 0 ≤ p ∧ p ≤ 1000 := h5.2
  rw [s2_nil]
  simp only [Int.toNat_natCast, hpe, c4, c5, chk_tt, q_dec_iff.2 hpg, q_dec_iff.2 h5, q_dec_iff.2 h6, ↓reduceIte, W_nat (show i < 9223372036854775807 by omega)]
  by_cases h2 : g i 1 = 2
  · have u1 : q_up (g i 1) (g i 5) (g i 6) p (b 0) 0 B = putB (putB B 0 2 (B 0 2 + q_pt (g i 5) p)) 0 3 (B 0 3 + q_pt (g i 6) p) := if_pos h2
    have u2 : q_ub (g i 1) 0 b = b := if_pos h2
    rw [u1, u2, if_pos (by simpa using h2), W_id (n := B 0 2 + q_pt (g i 5) p) (by omega) (by omega), W_id (n := B 0 3 + q_pt (g i 6) p) (by omega) (by omega), put_rj 4 B J1 0 2 _ (by omega), put_rj 4 _ J1 0 3 _ (by omega)]
  · have u2 : q_ub (g i 1) 0 b = fun i => if i = 0 then true else b i := if_neg h2
    rw [u2, if_neg (by simpa using h2), put_rb]
    unfold q_up
    rw [if_neg h2]
    by_cases h0 : g i 1 = 0
    · have n1 : ¬ g i 1 = 1 := by omega
      cases hkn : b 0 with
      | false =>
        have e1 : q_b1 (g i 1) false 0 B = putB B 0 1 0 := if_pos ⟨rfl, h0⟩
        rw [if_pos (by simp [h0]), e1, put_eq]
        by_cases hp0 : 0 < p
        · rw [if_pos (by simp [h0, hp0]), if_pos ⟨h0, hp0⟩, put_rj 4 B J1 0 1 _ (by omega), bmax, put_rj 4 _ J1 0 1 _ (by omega)]
        · rw [if_neg (by simp [h0, hp0]), if_neg (by simp [h0]), if_neg (fun h => hp0 h.2), if_neg (fun h => n1 h.1), put_rj 4 B J1 0 1 _ (by omega)]
      | true =>
        have e1 : q_b1 (g i 1) true 0 B = B := if_neg (fun h => by cases h.1)
        rw [if_neg (by simp), e1]
        by_cases hp0 : 0 < p
        · rw [if_pos (by simp [h0, hp0]), if_pos ⟨h0, hp0⟩, bmax, put_rj 4 _ J1 0 1 _ (by omega)]
        · rw [if_neg (by simp [h0, hp0]), if_neg (by simp [h0]), if_neg (fun h => hp0 h.2), if_neg (fun h => n1 h.1)]
    · have e1 : q_b1 (g i 1) (b 0) 0 B = B := if_neg (fun h => h0 h.2)
      rw [if_neg (by cases b 0 <;> simp [h0]), e1]
      by_cases h1 : g i 1 = 1 ∧ 0 < p
      · rw [if_neg (by simp [h0]), if_pos (by simp [h1.1, h1.2]), if_neg (fun h => h0 h.1), if_pos h1, W_id (n := 1000 - p) (by omega) (by omega), bmin, put_rj 4 _ J1 0 1 _ (by omega)]
      · rw [if_neg (by simp [h0]), if_neg (by
          intro hc
          refine h1 ?_
          by_cases q : g i 1 = 1
          · rw [q] at hc; exact ⟨q, of_decide_eq_true hc⟩
          · rw [beq_false_of_ne q] at hc; cases hc), if_neg (fun h => h0 h.1), if_neg h1]
end Go.Proofs.Ytlhgmlfhlbmjpaa.Sh
