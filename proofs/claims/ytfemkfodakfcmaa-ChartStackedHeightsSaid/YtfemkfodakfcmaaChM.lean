import Derived.Test.YtfemkfodakfcmaaChL
namespace Go.Proofs.Ytfemkfodakfcmaa.Sh
open Go Go.RowKit Go.Proofs.Ytfemkfodakfcmaa.Ev Go.Proofs.Try
set_option maxRecDepth 100000
set_option linter.unusedVariables false
theorem iln_0_27 (fl mm n0 m0 l : Nat) (k q : Int) (nr row : Nat → Nat → PS) (ln : Nat → Nat) (V : Nat → Nat → Int) (i : Nat) (hl : 1 ≤ l ∧ l ≤ 6) (hi : i < m0 ∧ i < 4) (hz : i = 0) (hf : 10 ≤ fl) :
    ∃ orow', CO 0 l ln V (i + 1) orow' ∧ rounds (yC3 fl) (kC3 fl mm k 0 n0 m0 nr (q_s2 ln V) q i (((27, .rows 9 1 l row) :: bC1 k 0 n0 m0 nr (q_s2 ln V) (.os 27) .nils) : Heap)) fl (hC3 k 0 n0 m0 nr (q_s2 ln V) q i l .nils (0 : Nat)) (((27, .rows 9 1 l row) :: bC1 k 0 n0 m0 nr (q_s2 ln V) (.os 27) .nils) : Heap) = rounds (yC2 fl) (kC2 fl) mm (hC2 k 0 n0 m0 nr (q_s2 ln V) q ((i + 1 : Nat) : Int)) ((93, .rows 52 1 (i + 1) orow') :: (27, .rows 9 1 l row) :: bC1 k 0 n0 m0 nr (q_s2 ln V) (.os 27) (.os 93)) := by
  have hb : (if (0 : Int) = 1 then (0 : Int) else -1000) = (-1000) := by decide
  have hcell : ∀ j : Nat, j < l → (j < ln i → q_within (V i j) (-1000) 1000 = q_bv 0 ln V i j) ∧ (¬ j < ln i → q_within (W (W (5 * j) + i)) (-1000) 1000 = q_bv 0 ln V i j) := fun j hj => by
    refine ⟨fun h => ?_, fun h => ?_⟩
    · unfold q_bv; rw [if_pos h, hb]
    · unfold q_bv; rw [if_neg h, hb]
  have go := loop_ex (body := yC3 fl) (K := kC3 fl mm k 0 n0 m0 nr (q_s2 ln V) q i (((27, .rows 9 1 l row) :: bC1 k 0 n0 m0 nr (q_s2 ln V) (.os 27) .nils) : Heap)) (σ := Nat → Nat → PS) (fun j _ => hC3 k 0 n0 m0 nr (q_s2 ln V) q i l (.os 82) (j : Int)) (fun j srow => (82, .rows 3 1 j srow) :: (((27, .rows 9 1 l row) :: bC1 k 0 n0 m0 nr (q_s2 ln V) (.os 27) .nils) : Heap)) (fun j srow => CI 0 ln V i j srow) l (Z := fun z => ∃ orow', CO 0 l ln V (i + 1) orow' ∧ z = rounds (yC2 fl) (kC2 fl) mm (hC2 k 0 n0 m0 nr (q_s2 ln V) q ((i + 1 : Nat) : Int)) ((93, .rows 52 1 (i + 1) orow') :: (27, .rows 9 1 l row) :: bC1 k 0 n0 m0 nr (q_s2 ln V) (.os 27) (.os 93))) (by
    intro j srow m1 hj hI
    have hW := (C_small (i := j) (by omega)).2
    rw [inr_0_27, if_pos (by simp <;> omega), chk_true (by simp <;> omega), hW]
    by_cases hlt : j < ln i
    · rw [if_pos (by simpa using hlt), chk_true (by simp <;> omega), chk_true (by simp; exact hlt), if_pos (by simp <;> omega), Int.toNat_natCast, Int.toNat_natCast]
      exact ⟨_, CI_step hI ((hcell j hj).1 hlt), rfl⟩
    · rw [if_neg (by simpa using hlt), if_pos (by simp <;> omega)]
      exact ⟨_, CI_step hI ((hcell j hj).2 hlt), rfl⟩) (by
    intro srow m1 hI
    rw [inr_0_27, if_neg (by simp), W_nat (i := i) (by omega)]
    exact ⟨_, CO_step (row := fun _ _ => .nilp) (by subst hz; intro i' hi; omega) hI, by subst hz; rfl⟩)
  obtain ⟨f, rfl⟩ : ∃ f', fl = f' + 1 := ⟨fl - 1, by omega⟩
  rw [inn_0_27, if_pos (by simp <;> omega), chk_true (by simp <;> omega), (C_small (i := 0) (by omega)).2]
  by_cases hlt : 0 < ln i
  · rw [if_pos (by simpa using hlt), chk_true (by simp <;> omega), chk_true (by simp; exact hlt), Int.toNat_natCast, Int.toNat_natCast]
    exact go f 1 _ (by omega) (by omega) (CI_step (j := 0) (row := fun _ _ => .nilp) (fun j' hj => absurd hj (by omega)) ((hcell 0 (by omega)).1 hlt))
  · rw [if_neg (by simpa using hlt)]
    exact go f 1 _ (by omega) (by omega) (CI_step (j := 0) (row := fun _ _ => .nilp) (fun j' hj => absurd hj (by omega)) ((hcell 0 (by omega)).2 hlt))
theorem ilr_0_27 (fl mm n0 m0 l : Nat) (k q : Int) (nr row : Nat → Nat → PS) (ln : Nat → Nat) (V : Nat → Nat → Int) (i : Nat) (orow : Nat → Nat → PS) (hl : 1 ≤ l ∧ l ≤ 6) (hi : i < m0 ∧ i < 4) (hO : CO 0 l ln V i orow) (hf : 10 ≤ fl) :
    ∃ orow', CO 0 l ln V (i + 1) orow' ∧ rounds (yC3 fl) (kC3 fl mm k 0 n0 m0 nr (q_s2 ln V) q i (((93, .rows 52 1 i orow) :: (27, .rows 9 1 l row) :: bC1 k 0 n0 m0 nr (q_s2 ln V) (.os 27) (.os 93)) : Heap)) fl (hC3 k 0 n0 m0 nr (q_s2 ln V) q i l .nils (0 : Nat)) (((93, .rows 52 1 i orow) :: (27, .rows 9 1 l row) :: bC1 k 0 n0 m0 nr (q_s2 ln V) (.os 27) (.os 93)) : Heap) = rounds (yC2 fl) (kC2 fl) mm (hC2 k 0 n0 m0 nr (q_s2 ln V) q ((i + 1 : Nat) : Int)) ((93, .rows 52 1 (i + 1) orow') :: (27, .rows 9 1 l row) :: bC1 k 0 n0 m0 nr (q_s2 ln V) (.os 27) (.os 93)) := by
  have hb : (if (0 : Int) = 1 then (0 : Int) else -1000) = (-1000) := by decide
  have hcell : ∀ j : Nat, j < l → (j < ln i → q_within (V i j) (-1000) 1000 = q_bv 0 ln V i j) ∧ (¬ j < ln i → q_within (W (W (5 * j) + i)) (-1000) 1000 = q_bv 0 ln V i j) := fun j hj => by
    refine ⟨fun h => ?_, fun h => ?_⟩
    · unfold q_bv; rw [if_pos h, hb]
    · unfold q_bv; rw [if_neg h, hb]
  have go := loop_ex (body := yC3 fl) (K := kC3 fl mm k 0 n0 m0 nr (q_s2 ln V) q i (((93, .rows 52 1 i orow) :: (27, .rows 9 1 l row) :: bC1 k 0 n0 m0 nr (q_s2 ln V) (.os 27) (.os 93)) : Heap)) (σ := Nat → Nat → PS) (fun j _ => hC3 k 0 n0 m0 nr (q_s2 ln V) q i l (.os 82) (j : Int)) (fun j srow => (82, .rows 3 1 j srow) :: (((93, .rows 52 1 i orow) :: (27, .rows 9 1 l row) :: bC1 k 0 n0 m0 nr (q_s2 ln V) (.os 27) (.os 93)) : Heap)) (fun j srow => CI 0 ln V i j srow) l (Z := fun z => ∃ orow', CO 0 l ln V (i + 1) orow' ∧ z = rounds (yC2 fl) (kC2 fl) mm (hC2 k 0 n0 m0 nr (q_s2 ln V) q ((i + 1 : Nat) : Int)) ((93, .rows 52 1 (i + 1) orow') :: (27, .rows 9 1 l row) :: bC1 k 0 n0 m0 nr (q_s2 ln V) (.os 27) (.os 93))) (by
    intro j srow m1 hj hI
    have hW := (C_small (i := j) (by omega)).2
    rw [irr_0_27, if_pos (by simp <;> omega), chk_true (by simp <;> omega), hW]
    by_cases hlt : j < ln i
    · rw [if_pos (by simpa using hlt), chk_true (by simp <;> omega), chk_true (by simp; exact hlt), if_pos (by simp <;> omega), Int.toNat_natCast, Int.toNat_natCast]
      exact ⟨_, CI_step hI ((hcell j hj).1 hlt), rfl⟩
    · rw [if_neg (by simpa using hlt), if_pos (by simp <;> omega)]
      exact ⟨_, CI_step hI ((hcell j hj).2 hlt), rfl⟩) (by
    intro srow m1 hI
    rw [irr_0_27, if_neg (by simp), W_nat (i := i) (by omega), if_pos (by simp <;> omega)]
    exact ⟨_, CO_step hO hI, rfl⟩)
  obtain ⟨f, rfl⟩ : ∃ f', fl = f' + 1 := ⟨fl - 1, by omega⟩
  rw [irn_0_27, if_pos (by simp <;> omega), chk_true (by simp <;> omega), (C_small (i := 0) (by omega)).2]
  by_cases hlt : 0 < ln i
  · rw [if_pos (by simpa using hlt), chk_true (by simp <;> omega), chk_true (by simp; exact hlt), Int.toNat_natCast, Int.toNat_natCast]
    exact go f 1 _ (by omega) (by omega) (CI_step (j := 0) (row := fun _ _ => .nilp) (fun j' hj => absurd hj (by omega)) ((hcell 0 (by omega)).1 hlt))
  · rw [if_neg (by simpa using hlt)]
    exact go f 1 _ (by omega) (by omega) (CI_step (j := 0) (row := fun _ _ => .nilp) (fun j' hj => absurd hj (by omega)) ((hcell 0 (by omega)).2 hlt))
theorem iln_0_33 (fl mm n0 m0 l : Nat) (k q : Int) (nr row : Nat → Nat → PS) (ln : Nat → Nat) (V : Nat → Nat → Int) (i : Nat) (hl : 1 ≤ l ∧ l ≤ 6) (hi : i < m0 ∧ i < 4) (hz : i = 0) (hf : 10 ≤ fl) :
    ∃ orow', CO 0 l ln V (i + 1) orow' ∧ rounds (yC3 fl) (kC3 fl mm k 0 n0 m0 nr (q_s2 ln V) q i (((33, .rows 9 1 l row) :: bC1 k 0 n0 m0 nr (q_s2 ln V) (.os 33) .nils) : Heap)) fl (hC3 k 0 n0 m0 nr (q_s2 ln V) q i l .nils (0 : Nat)) (((33, .rows 9 1 l row) :: bC1 k 0 n0 m0 nr (q_s2 ln V) (.os 33) .nils) : Heap) = rounds (yC2 fl) (kC2 fl) mm (hC2 k 0 n0 m0 nr (q_s2 ln V) q ((i + 1 : Nat) : Int)) ((93, .rows 52 1 (i + 1) orow') :: (33, .rows 9 1 l row) :: bC1 k 0 n0 m0 nr (q_s2 ln V) (.os 33) (.os 93)) := by
  have hb : (if (0 : Int) = 1 then (0 : Int) else -1000) = (-1000) := by decide
  have hcell : ∀ j : Nat, j < l → (j < ln i → q_within (V i j) (-1000) 1000 = q_bv 0 ln V i j) ∧ (¬ j < ln i → q_within (W (W (5 * j) + i)) (-1000) 1000 = q_bv 0 ln V i j) := fun j hj => by
    refine ⟨fun h => ?_, fun h => ?_⟩
    · unfold q_bv; rw [if_pos h, hb]
    · unfold q_bv; rw [if_neg h, hb]
  have go := loop_ex (body := yC3 fl) (K := kC3 fl mm k 0 n0 m0 nr (q_s2 ln V) q i (((33, .rows 9 1 l row) :: bC1 k 0 n0 m0 nr (q_s2 ln V) (.os 33) .nils) : Heap)) (σ := Nat → Nat → PS) (fun j _ => hC3 k 0 n0 m0 nr (q_s2 ln V) q i l (.os 82) (j : Int)) (fun j srow => (82, .rows 3 1 j srow) :: (((33, .rows 9 1 l row) :: bC1 k 0 n0 m0 nr (q_s2 ln V) (.os 33) .nils) : Heap)) (fun j srow => CI 0 ln V i j srow) l (Z := fun z => ∃ orow', CO 0 l ln V (i + 1) orow' ∧ z = rounds (yC2 fl) (kC2 fl) mm (hC2 k 0 n0 m0 nr (q_s2 ln V) q ((i + 1 : Nat) : Int)) ((93, .rows 52 1 (i + 1) orow') :: (33, .rows 9 1 l row) :: bC1 k 0 n0 m0 nr (q_s2 ln V) (.os 33) (.os 93))) (by
    intro j srow m1 hj hI
    have hW := (C_small (i := j) (by omega)).2
    rw [inr_0_33, if_pos (by simp <;> omega), chk_true (by simp <;> omega), hW]
    by_cases hlt : j < ln i
    · rw [if_pos (by simpa using hlt), chk_true (by simp <;> omega), chk_true (by simp; exact hlt), if_pos (by simp <;> omega), Int.toNat_natCast, Int.toNat_natCast]
      exact ⟨_, CI_step hI ((hcell j hj).1 hlt), rfl⟩
    · rw [if_neg (by simpa using hlt), if_pos (by simp <;> omega)]
      exact ⟨_, CI_step hI ((hcell j hj).2 hlt), rfl⟩) (by
    intro srow m1 hI
    rw [inr_0_33, if_neg (by simp), W_nat (i := i) (by omega)]
    exact ⟨_, CO_step (row := fun _ _ => .nilp) (by subst hz; intro i' hi; omega) hI, by subst hz; rfl⟩)
  obtain ⟨f, rfl⟩ : ∃ f', fl = f' + 1 := ⟨fl - 1, by omega⟩
  rw [inn_0_33, if_pos (by simp <;> omega), chk_true (by simp <;> omega), (C_small (i := 0) (by omega)).2]
  by_cases hlt : 0 < ln i
  · rw [if_pos (by simpa using hlt), chk_true (by simp <;> omega), chk_true (by simp; exact hlt), Int.toNat_natCast, Int.toNat_natCast]
    exact go f 1 _ (by omega) (by omega) (CI_step (j := 0) (row := fun _ _ => .nilp) (fun j' hj => absurd hj (by omega)) ((hcell 0 (by omega)).1 hlt))
  · rw [if_neg (by simpa using hlt)]
    exact go f 1 _ (by omega) (by omega) (CI_step (j := 0) (row := fun _ _ => .nilp) (fun j' hj => absurd hj (by omega)) ((hcell 0 (by omega)).2 hlt))
theorem ilr_0_33 (fl mm n0 m0 l : Nat) (k q : Int) (nr row : Nat → Nat → PS) (ln : Nat → Nat) (V : Nat → Nat → Int) (i : Nat) (orow : Nat → Nat → PS) (hl : 1 ≤ l ∧ l ≤ 6) (hi : i < m0 ∧ i < 4) (hO : CO 0 l ln V i orow) (hf : 10 ≤ fl) :
    ∃ orow', CO 0 l ln V (i + 1) orow' ∧ rounds (yC3 fl) (kC3 fl mm k 0 n0 m0 nr (q_s2 ln V) q i (((93, .rows 52 1 i orow) :: (33, .rows 9 1 l row) :: bC1 k 0 n0 m0 nr (q_s2 ln V) (.os 33) (.os 93)) : Heap)) fl (hC3 k 0 n0 m0 nr (q_s2 ln V) q i l .nils (0 : Nat)) (((93, .rows 52 1 i orow) :: (33, .rows 9 1 l row) :: bC1 k 0 n0 m0 nr (q_s2 ln V) (.os 33) (.os 93)) : Heap) = rounds (yC2 fl) (kC2 fl) mm (hC2 k 0 n0 m0 nr (q_s2 ln V) q ((i + 1 : Nat) : Int)) ((93, .rows 52 1 (i + 1) orow') :: (33, .rows 9 1 l row) :: bC1 k 0 n0 m0 nr (q_s2 ln V) (.os 33) (.os 93)) := by
  have hb : (if (0 : Int) = 1 then (0 : Int) else -1000) = (-1000) := by decide
  have hcell : ∀ j : Nat, j < l → (j < ln i → q_within (V i j) (-1000) 1000 = q_bv 0 ln V i j) ∧ (¬ j < ln i → q_within (W (W (5 * j) + i)) (-1000) 1000 = q_bv 0 ln V i j) := fun j hj => by
    refine ⟨fun h => ?_, fun h => ?_⟩
    · unfold q_bv; rw [if_pos h, hb]
    · unfold q_bv; rw [if_neg h, hb]
  have go := loop_ex (body := yC3 fl) (K := kC3 fl mm k 0 n0 m0 nr (q_s2 ln V) q i (((93, .rows 52 1 i orow) :: (33, .rows 9 1 l row) :: bC1 k 0 n0 m0 nr (q_s2 ln V) (.os 33) (.os 93)) : Heap)) (σ := Nat → Nat → PS) (fun j _ => hC3 k 0 n0 m0 nr (q_s2 ln V) q i l (.os 82) (j : Int)) (fun j srow => (82, .rows 3 1 j srow) :: (((93, .rows 52 1 i orow) :: (33, .rows 9 1 l row) :: bC1 k 0 n0 m0 nr (q_s2 ln V) (.os 33) (.os 93)) : Heap)) (fun j srow => CI 0 ln V i j srow) l (Z := fun z => ∃ orow', CO 0 l ln V (i + 1) orow' ∧ z = rounds (yC2 fl) (kC2 fl) mm (hC2 k 0 n0 m0 nr (q_s2 ln V) q ((i + 1 : Nat) : Int)) ((93, .rows 52 1 (i + 1) orow') :: (33, .rows 9 1 l row) :: bC1 k 0 n0 m0 nr (q_s2 ln V) (.os 33) (.os 93))) (by
    intro j srow m1 hj hI
    have hW := (C_small (i := j) (by omega)).2
    rw [irr_0_33, if_pos (by simp <;> omega), chk_true (by simp <;> omega), hW]
    by_cases hlt : j < ln i
    · rw [if_pos (by simpa using hlt), chk_true (by simp <;> omega), chk_true (by simp; exact hlt), if_pos (by simp <;> omega), Int.toNat_natCast, Int.toNat_natCast]
      exact ⟨_, CI_step hI ((hcell j hj).1 hlt), rfl⟩
    · rw [if_neg (by simpa using hlt), if_pos (by simp <;> omega)]
      exact ⟨_, CI_step hI ((hcell j hj).2 hlt), rfl⟩) (by
    intro srow m1 hI
    rw [irr_0_33, if_neg (by simp), W_nat (i := i) (by omega), if_pos (by simp <;> omega)]
    exact ⟨_, CO_step hO hI, rfl⟩)
  obtain ⟨f, rfl⟩ : ∃ f', fl = f' + 1 := ⟨fl - 1, by omega⟩
  rw [irn_0_33, if_pos (by simp <;> omega), chk_true (by simp <;> omega), (C_small (i := 0) (by omega)).2]
  by_cases hlt : 0 < ln i
  · rw [if_pos (by simpa using hlt), chk_true (by simp <;> omega), chk_true (by simp; exact hlt), Int.toNat_natCast, Int.toNat_natCast]
    exact go f 1 _ (by omega) (by omega) (CI_step (j := 0) (row := fun _ _ => .nilp) (fun j' hj => absurd hj (by omega)) ((hcell 0 (by omega)).1 hlt))
  · rw [if_neg (by simpa using hlt)]
    exact go f 1 _ (by omega) (by omega) (CI_step (j := 0) (row := fun _ _ => .nilp) (fun j' hj => absurd hj (by omega)) ((hcell 0 (by omega)).2 hlt))
theorem iln_1_27 (fl mm n0 m0 l : Nat) (k q : Int) (nr row : Nat → Nat → PS) (ln : Nat → Nat) (V : Nat → Nat → Int) (i : Nat) (hl : 1 ≤ l ∧ l ≤ 6) (hi : i < m0 ∧ i < 4) (hz : i = 0) (hf : 10 ≤ fl) :
    ∃ orow', CO 1 l ln V (i + 1) orow' ∧ rounds (yC3 fl) (kC3 fl mm k 1 n0 m0 nr (q_s2 ln V) q i (((27, .rows 9 1 l row) :: bC1 k 1 n0 m0 nr (q_s2 ln V) (.os 27) .nils) : Heap)) fl (hC3 k 1 n0 m0 nr (q_s2 ln V) q i l .nils (0 : Nat)) (((27, .rows 9 1 l row) :: bC1 k 1 n0 m0 nr (q_s2 ln V) (.os 27) .nils) : Heap) = rounds (yC2 fl) (kC2 fl) mm (hC2 k 1 n0 m0 nr (q_s2 ln V) q ((i + 1 : Nat) : Int)) ((93, .rows 52 1 (i + 1) orow') :: (27, .rows 9 1 l row) :: bC1 k 1 n0 m0 nr (q_s2 ln V) (.os 27) (.os 93)) := by
  have hb : (if (1 : Int) = 1 then (0 : Int) else -1000) = 0 := by decide
  have hcell : ∀ j : Nat, j < l → (j < ln i → q_within (V i j) 0 1000 = q_bv 1 ln V i j) ∧ (¬ j < ln i → q_within (W (W (5 * j) + i)) 0 1000 = q_bv 1 ln V i j) := fun j hj => by
    refine ⟨fun h => ?_, fun h => ?_⟩
    · unfold q_bv; rw [if_pos h, hb]
    · unfold q_bv; rw [if_neg h, hb]
  have go := loop_ex (body := yC3 fl) (K := kC3 fl mm k 1 n0 m0 nr (q_s2 ln V) q i (((27, .rows 9 1 l row) :: bC1 k 1 n0 m0 nr (q_s2 ln V) (.os 27) .nils) : Heap)) (σ := Nat → Nat → PS) (fun j _ => hC3 k 1 n0 m0 nr (q_s2 ln V) q i l (.os 87) (j : Int)) (fun j srow => (87, .rows 3 1 j srow) :: (((27, .rows 9 1 l row) :: bC1 k 1 n0 m0 nr (q_s2 ln V) (.os 27) .nils) : Heap)) (fun j srow => CI 1 ln V i j srow) l (Z := fun z => ∃ orow', CO 1 l ln V (i + 1) orow' ∧ z = rounds (yC2 fl) (kC2 fl) mm (hC2 k 1 n0 m0 nr (q_s2 ln V) q ((i + 1 : Nat) : Int)) ((93, .rows 52 1 (i + 1) orow') :: (27, .rows 9 1 l row) :: bC1 k 1 n0 m0 nr (q_s2 ln V) (.os 27) (.os 93))) (by
    intro j srow m1 hj hI
    have hW := (C_small (i := j) (by omega)).2
    rw [inr_1_27, if_pos (by simp <;> omega), chk_true (by simp <;> omega), hW]
    by_cases hlt : j < ln i
    · rw [if_pos (by simpa using hlt), chk_true (by simp <;> omega), chk_true (by simp; exact hlt), if_pos (by simp <;> omega), Int.toNat_natCast, Int.toNat_natCast]
      exact ⟨_, CI_step hI ((hcell j hj).1 hlt), rfl⟩
    · rw [if_neg (by simpa using hlt), if_pos (by simp <;> omega)]
      exact ⟨_, CI_step hI ((hcell j hj).2 hlt), rfl⟩) (by
    intro srow m1 hI
    rw [inr_1_27, if_neg (by simp), W_nat (i := i) (by omega)]
    exact ⟨_, CO_step (row := fun _ _ => .nilp) (by subst hz; intro i' hi; omega) hI, by subst hz; rfl⟩)
  obtain ⟨f, rfl⟩ : ∃ f', fl = f' + 1 := ⟨fl - 1, by omega⟩
  rw [inn_1_27, if_pos (by simp <;> omega), chk_true (by simp <;> omega), (C_small (i := 0) (by omega)).2]
  by_cases hlt : 0 < ln i
  · rw [if_pos (by simpa using hlt), chk_true (by simp <;> omega), chk_true (by simp; exact hlt), Int.toNat_natCast, Int.toNat_natCast]
    exact go f 1 _ (by omega) (by omega) (CI_step (j := 0) (row := fun _ _ => .nilp) (fun j' hj => absurd hj (by omega)) ((hcell 0 (by omega)).1 hlt))
  · rw [if_neg (by simpa using hlt)]
    exact go f 1 _ (by omega) (by omega) (CI_step (j := 0) (row := fun _ _ => .nilp) (fun j' hj => absurd hj (by omega)) ((hcell 0 (by omega)).2 hlt))
theorem ilr_1_27 (fl mm n0 m0 l : Nat) (k q : Int) (nr row : Nat → Nat → PS) (ln : Nat → Nat) (V : Nat → Nat → Int) (i : Nat) (orow : Nat → Nat → PS) (hl : 1 ≤ l ∧ l ≤ 6) (hi : i < m0 ∧ i < 4) (hO : CO 1 l ln V i orow) (hf : 10 ≤ fl) :
    ∃ orow', CO 1 l ln V (i + 1) orow' ∧ rounds (yC3 fl) (kC3 fl mm k 1 n0 m0 nr (q_s2 ln V) q i (((93, .rows 52 1 i orow) :: (27, .rows 9 1 l row) :: bC1 k 1 n0 m0 nr (q_s2 ln V) (.os 27) (.os 93)) : Heap)) fl (hC3 k 1 n0 m0 nr (q_s2 ln V) q i l .nils (0 : Nat)) (((93, .rows 52 1 i orow) :: (27, .rows 9 1 l row) :: bC1 k 1 n0 m0 nr (q_s2 ln V) (.os 27) (.os 93)) : Heap) = rounds (yC2 fl) (kC2 fl) mm (hC2 k 1 n0 m0 nr (q_s2 ln V) q ((i + 1 : Nat) : Int)) ((93, .rows 52 1 (i + 1) orow') :: (27, .rows 9 1 l row) :: bC1 k 1 n0 m0 nr (q_s2 ln V) (.os 27) (.os 93)) := by
  have hb : (if (1 : Int) = 1 then (0 : Int) else -1000) = 0 := by decide
  have hcell : ∀ j : Nat, j < l → (j < ln i → q_within (V i j) 0 1000 = q_bv 1 ln V i j) ∧ (¬ j < ln i → q_within (W (W (5 * j) + i)) 0 1000 = q_bv 1 ln V i j) := fun j hj => by
    refine ⟨fun h => ?_, fun h => ?_⟩
    · unfold q_bv; rw [if_pos h, hb]
    · unfold q_bv; rw [if_neg h, hb]
  have go := loop_ex (body := yC3 fl) (K := kC3 fl mm k 1 n0 m0 nr (q_s2 ln V) q i (((93, .rows 52 1 i orow) :: (27, .rows 9 1 l row) :: bC1 k 1 n0 m0 nr (q_s2 ln V) (.os 27) (.os 93)) : Heap)) (σ := Nat → Nat → PS) (fun j _ => hC3 k 1 n0 m0 nr (q_s2 ln V) q i l (.os 87) (j : Int)) (fun j srow => (87, .rows 3 1 j srow) :: (((93, .rows 52 1 i orow) :: (27, .rows 9 1 l row) :: bC1 k 1 n0 m0 nr (q_s2 ln V) (.os 27) (.os 93)) : Heap)) (fun j srow => CI 1 ln V i j srow) l (Z := fun z => ∃ orow', CO 1 l ln V (i + 1) orow' ∧ z = rounds (yC2 fl) (kC2 fl) mm (hC2 k 1 n0 m0 nr (q_s2 ln V) q ((i + 1 : Nat) : Int)) ((93, .rows 52 1 (i + 1) orow') :: (27, .rows 9 1 l row) :: bC1 k 1 n0 m0 nr (q_s2 ln V) (.os 27) (.os 93))) (by
    intro j srow m1 hj hI
    have hW := (C_small (i := j) (by omega)).2
    rw [irr_1_27, if_pos (by simp <;> omega), chk_true (by simp <;> omega), hW]
    by_cases hlt : j < ln i
    · rw [if_pos (by simpa using hlt), chk_true (by simp <;> omega), chk_true (by simp; exact hlt), if_pos (by simp <;> omega), Int.toNat_natCast, Int.toNat_natCast]
      exact ⟨_, CI_step hI ((hcell j hj).1 hlt), rfl⟩
    · rw [if_neg (by simpa using hlt), if_pos (by simp <;> omega)]
      exact ⟨_, CI_step hI ((hcell j hj).2 hlt), rfl⟩) (by
    intro srow m1 hI
    rw [irr_1_27, if_neg (by simp), W_nat (i := i) (by omega), if_pos (by simp <;> omega)]
    exact ⟨_, CO_step hO hI, rfl⟩)
  obtain ⟨f, rfl⟩ : ∃ f', fl = f' + 1 := ⟨fl - 1, by omega⟩
  rw [irn_1_27, if_pos (by simp <;> omega), chk_true (by simp <;> omega), (C_small (i := 0) (by omega)).2]
  by_cases hlt : 0 < ln i
  · rw [if_pos (by simpa using hlt), chk_true (by simp <;> omega), chk_true (by simp; exact hlt), Int.toNat_natCast, Int.toNat_natCast]
    exact go f 1 _ (by omega) (by omega) (CI_step (j := 0) (row := fun _ _ => .nilp) (fun j' hj => absurd hj (by omega)) ((hcell 0 (by omega)).1 hlt))
  · rw [if_neg (by simpa using hlt)]
    exact go f 1 _ (by omega) (by omega) (CI_step (j := 0) (row := fun _ _ => .nilp) (fun j' hj => absurd hj (by omega)) ((hcell 0 (by omega)).2 hlt))
theorem iln_1_33 (fl mm n0 m0 l : Nat) (k q : Int) (nr row : Nat → Nat → PS) (ln : Nat → Nat) (V : Nat → Nat → Int) (i : Nat) (hl : 1 ≤ l ∧ l ≤ 6) (hi : i < m0 ∧ i < 4) (hz : i = 0) (hf : 10 ≤ fl) :
    ∃ orow', CO 1 l ln V (i + 1) orow' ∧ rounds (yC3 fl) (kC3 fl mm k 1 n0 m0 nr (q_s2 ln V) q i (((33, .rows 9 1 l row) :: bC1 k 1 n0 m0 nr (q_s2 ln V) (.os 33) .nils) : Heap)) fl (hC3 k 1 n0 m0 nr (q_s2 ln V) q i l .nils (0 : Nat)) (((33, .rows 9 1 l row) :: bC1 k 1 n0 m0 nr (q_s2 ln V) (.os 33) .nils) : Heap) = rounds (yC2 fl) (kC2 fl) mm (hC2 k 1 n0 m0 nr (q_s2 ln V) q ((i + 1 : Nat) : Int)) ((93, .rows 52 1 (i + 1) orow') :: (33, .rows 9 1 l row) :: bC1 k 1 n0 m0 nr (q_s2 ln V) (.os 33) (.os 93)) := by
  have hb : (if (1 : Int) = 1 then (0 : Int) else -1000) = 0 := by decide
  have hcell : ∀ j : Nat, j < l → (j < ln i → q_within (V i j) 0 1000 = q_bv 1 ln V i j) ∧ (¬ j < ln i → q_within (W (W (5 * j) + i)) 0 1000 = q_bv 1 ln V i j) := fun j hj => by
    refine ⟨fun h => ?_, fun h => ?_⟩
    · unfold q_bv; rw [if_pos h, hb]
    · unfold q_bv; rw [if_neg h, hb]
  have go := loop_ex (body := yC3 fl) (K := kC3 fl mm k 1 n0 m0 nr (q_s2 ln V) q i (((33, .rows 9 1 l row) :: bC1 k 1 n0 m0 nr (q_s2 ln V) (.os 33) .nils) : Heap)) (σ := Nat → Nat → PS) (fun j _ => hC3 k 1 n0 m0 nr (q_s2 ln V) q i l (.os 87) (j : Int)) (fun j srow => (87, .rows 3 1 j srow) :: (((33, .rows 9 1 l row) :: bC1 k 1 n0 m0 nr (q_s2 ln V) (.os 33) .nils) : Heap)) (fun j srow => CI 1 ln V i j srow) l (Z := fun z => ∃ orow', CO 1 l ln V (i + 1) orow' ∧ z = rounds (yC2 fl) (kC2 fl) mm (hC2 k 1 n0 m0 nr (q_s2 ln V) q ((i + 1 : Nat) : Int)) ((93, .rows 52 1 (i + 1) orow') :: (33, .rows 9 1 l row) :: bC1 k 1 n0 m0 nr (q_s2 ln V) (.os 33) (.os 93))) (by
    intro j srow m1 hj hI
    have hW := (C_small (i := j) (by omega)).2
    rw [inr_1_33, if_pos (by simp <;> omega), chk_true (by simp <;> omega), hW]
    by_cases hlt : j < ln i
    · rw [if_pos (by simpa using hlt), chk_true (by simp <;> omega), chk_true (by simp; exact hlt), if_pos (by simp <;> omega), Int.toNat_natCast, Int.toNat_natCast]
      exact ⟨_, CI_step hI ((hcell j hj).1 hlt), rfl⟩
    · rw [if_neg (by simpa using hlt), if_pos (by simp <;> omega)]
      exact ⟨_, CI_step hI ((hcell j hj).2 hlt), rfl⟩) (by
    intro srow m1 hI
    rw [inr_1_33, if_neg (by simp), W_nat (i := i) (by omega)]
    exact ⟨_, CO_step (row := fun _ _ => .nilp) (by subst hz; intro i' hi; omega) hI, by subst hz; rfl⟩)
  obtain ⟨f, rfl⟩ : ∃ f', fl = f' + 1 := ⟨fl - 1, by omega⟩
  rw [inn_1_33, if_pos (by simp <;> omega), chk_true (by simp <;> omega), (C_small (i := 0) (by omega)).2]
  by_cases hlt : 0 < ln i
  · rw [if_pos (by simpa using hlt), chk_true (by simp <;> omega), chk_true (by simp; exact hlt), Int.toNat_natCast, Int.toNat_natCast]
    exact go f 1 _ (by omega) (by omega) (CI_step (j := 0) (row := fun _ _ => .nilp) (fun j' hj => absurd hj (by omega)) ((hcell 0 (by omega)).1 hlt))
  · rw [if_neg (by simpa using hlt)]
    exact go f 1 _ (by omega) (by omega) (CI_step (j := 0) (row := fun _ _ => .nilp) (fun j' hj => absurd hj (by omega)) ((hcell 0 (by omega)).2 hlt))
theorem ilr_1_33 (fl mm n0 m0 l : Nat) (k q : Int) (nr row : Nat → Nat → PS) (ln : Nat → Nat) (V : Nat → Nat → Int) (i : Nat) (orow : Nat → Nat → PS) (hl : 1 ≤ l ∧ l ≤ 6) (hi : i < m0 ∧ i < 4) (hO : CO 1 l ln V i orow) (hf : 10 ≤ fl) :
    ∃ orow', CO 1 l ln V (i + 1) orow' ∧ rounds (yC3 fl) (kC3 fl mm k 1 n0 m0 nr (q_s2 ln V) q i (((93, .rows 52 1 i orow) :: (33, .rows 9 1 l row) :: bC1 k 1 n0 m0 nr (q_s2 ln V) (.os 33) (.os 93)) : Heap)) fl (hC3 k 1 n0 m0 nr (q_s2 ln V) q i l .nils (0 : Nat)) (((93, .rows 52 1 i orow) :: (33, .rows 9 1 l row) :: bC1 k 1 n0 m0 nr (q_s2 ln V) (.os 33) (.os 93)) : Heap) = rounds (yC2 fl) (kC2 fl) mm (hC2 k 1 n0 m0 nr (q_s2 ln V) q ((i + 1 : Nat) : Int)) ((93, .rows 52 1 (i + 1) orow') :: (33, .rows 9 1 l row) :: bC1 k 1 n0 m0 nr (q_s2 ln V) (.os 33) (.os 93)) := by
  have hb : (if (1 : Int) = 1 then (0 : Int) else -1000) = 0 := by decide
  have hcell : ∀ j : Nat, j < l → (j < ln i → q_within (V i j) 0 1000 = q_bv 1 ln V i j) ∧ (¬ j < ln i → q_within (W (W (5 * j) + i)) 0 1000 = q_bv 1 ln V i j) := fun j hj => by
    refine ⟨fun h => ?_, fun h => ?_⟩
    · unfold q_bv; rw [if_pos h, hb]
    · unfold q_bv; rw [if_neg h, hb]
  have go := loop_ex (body := yC3 fl) (K := kC3 fl mm k 1 n0 m0 nr (q_s2 ln V) q i (((93, .rows 52 1 i orow) :: (33, .rows 9 1 l row) :: bC1 k 1 n0 m0 nr (q_s2 ln V) (.os 33) (.os 93)) : Heap)) (σ := Nat → Nat → PS) (fun j _ => hC3 k 1 n0 m0 nr (q_s2 ln V) q i l (.os 87) (j : Int)) (fun j srow => (87, .rows 3 1 j srow) :: (((93, .rows 52 1 i orow) :: (33, .rows 9 1 l row) :: bC1 k 1 n0 m0 nr (q_s2 ln V) (.os 33) (.os 93)) : Heap)) (fun j srow => CI 1 ln V i j srow) l (Z := fun z => ∃ orow', CO 1 l ln V (i + 1) orow' ∧ z = rounds (yC2 fl) (kC2 fl) mm (hC2 k 1 n0 m0 nr (q_s2 ln V) q ((i + 1 : Nat) : Int)) ((93, .rows 52 1 (i + 1) orow') :: (33, .rows 9 1 l row) :: bC1 k 1 n0 m0 nr (q_s2 ln V) (.os 33) (.os 93))) (by
    intro j srow m1 hj hI
    have hW := (C_small (i := j) (by omega)).2
    rw [irr_1_33, if_pos (by simp <;> omega), chk_true (by simp <;> omega), hW]
    by_cases hlt : j < ln i
    · rw [if_pos (by simpa using hlt), chk_true (by simp <;> omega), chk_true (by simp; exact hlt), if_pos (by simp <;> omega), Int.toNat_natCast, Int.toNat_natCast]
      exact ⟨_, CI_step hI ((hcell j hj).1 hlt), rfl⟩
    · rw [if_neg (by simpa using hlt), if_pos (by simp <;> omega)]
      exact ⟨_, CI_step hI ((hcell j hj).2 hlt), rfl⟩) (by
    intro srow m1 hI
    rw [irr_1_33, if_neg (by simp), W_nat (i := i) (by omega), if_pos (by simp <;> omega)]
    exact ⟨_, CO_step hO hI, rfl⟩)
  obtain ⟨f, rfl⟩ : ∃ f', fl = f' + 1 := ⟨fl - 1, by omega⟩
  rw [irn_1_33, if_pos (by simp <;> omega), chk_true (by simp <;> omega), (C_small (i := 0) (by omega)).2]
  by_cases hlt : 0 < ln i
  · rw [if_pos (by simpa using hlt), chk_true (by simp <;> omega), chk_true (by simp; exact hlt), Int.toNat_natCast, Int.toNat_natCast]
    exact go f 1 _ (by omega) (by omega) (CI_step (j := 0) (row := fun _ _ => .nilp) (fun j' hj => absurd hj (by omega)) ((hcell 0 (by omega)).1 hlt))
  · rw [if_neg (by simpa using hlt)]
    exact go f 1 _ (by omega) (by omega) (CI_step (j := 0) (row := fun _ _ => .nilp) (fun j' hj => absurd hj (by omega)) ((hcell 0 (by omega)).2 hlt))
theorem iln_2_27 (fl mm n0 m0 l : Nat) (k q : Int) (nr row : Nat → Nat → PS) (ln : Nat → Nat) (V : Nat → Nat → Int) (i : Nat) (hl : 1 ≤ l ∧ l ≤ 6) (hi : i < m0 ∧ i < 4) (hz : i = 0) (hf : 10 ≤ fl) :
    ∃ orow', CO 2 l ln V (i + 1) orow' ∧ rounds (yC3 fl) (kC3 fl mm k 2 n0 m0 nr (q_s2 ln V) q i (((27, .rows 9 1 l row) :: bC1 k 2 n0 m0 nr (q_s2 ln V) (.os 27) .nils) : Heap)) fl (hC3 k 2 n0 m0 nr (q_s2 ln V) q i l .nils (0 : Nat)) (((27, .rows 9 1 l row) :: bC1 k 2 n0 m0 nr (q_s2 ln V) (.os 27) .nils) : Heap) = rounds (yC2 fl) (kC2 fl) mm (hC2 k 2 n0 m0 nr (q_s2 ln V) q ((i + 1 : Nat) : Int)) ((93, .rows 52 1 (i + 1) orow') :: (27, .rows 9 1 l row) :: bC1 k 2 n0 m0 nr (q_s2 ln V) (.os 27) (.os 93)) := by
  have hb : (if (2 : Int) = 1 then (0 : Int) else -1000) = (-1000) := by decide
  have hcell : ∀ j : Nat, j < l → (j < ln i → q_within (V i j) (-1000) 1000 = q_bv 2 ln V i j) ∧ (¬ j < ln i → q_within (W (W (5 * j) + i)) (-1000) 1000 = q_bv 2 ln V i j) := fun j hj => by
    refine ⟨fun h => ?_, fun h => ?_⟩
    · unfold q_bv; rw [if_pos h, hb]
    · unfold q_bv; rw [if_neg h, hb]
  have go := loop_ex (body := yC3 fl) (K := kC3 fl mm k 2 n0 m0 nr (q_s2 ln V) q i (((27, .rows 9 1 l row) :: bC1 k 2 n0 m0 nr (q_s2 ln V) (.os 27) .nils) : Heap)) (σ := Nat → Nat → PS) (fun j _ => hC3 k 2 n0 m0 nr (q_s2 ln V) q i l (.os 82) (j : Int)) (fun j srow => (82, .rows 3 1 j srow) :: (((27, .rows 9 1 l row) :: bC1 k 2 n0 m0 nr (q_s2 ln V) (.os 27) .nils) : Heap)) (fun j srow => CI 2 ln V i j srow) l (Z := fun z => ∃ orow', CO 2 l ln V (i + 1) orow' ∧ z = rounds (yC2 fl) (kC2 fl) mm (hC2 k 2 n0 m0 nr (q_s2 ln V) q ((i + 1 : Nat) : Int)) ((93, .rows 52 1 (i + 1) orow') :: (27, .rows 9 1 l row) :: bC1 k 2 n0 m0 nr (q_s2 ln V) (.os 27) (.os 93))) (by
    intro j srow m1 hj hI
    have hW := (C_small (i := j) (by omega)).2
    rw [inr_2_27, if_pos (by simp <;> omega), chk_true (by simp <;> omega), hW]
    by_cases hlt : j < ln i
    · rw [if_pos (by simpa using hlt), chk_true (by simp <;> omega), chk_true (by simp; exact hlt), if_pos (by simp <;> omega), Int.toNat_natCast, Int.toNat_natCast]
      exact ⟨_, CI_step hI ((hcell j hj).1 hlt), rfl⟩
    · rw [if_neg (by simpa using hlt), if_pos (by simp <;> omega)]
      exact ⟨_, CI_step hI ((hcell j hj).2 hlt), rfl⟩) (by
    intro srow m1 hI
    rw [inr_2_27, if_neg (by simp), W_nat (i := i) (by omega)]
    exact ⟨_, CO_step (row := fun _ _ => .nilp) (by subst hz; intro i' hi; omega) hI, by subst hz; rfl⟩)
  obtain ⟨f, rfl⟩ : ∃ f', fl = f' + 1 := ⟨fl - 1, by omega⟩
  rw [inn_2_27, if_pos (by simp <;> omega), chk_true (by simp <;> omega), (C_small (i := 0) (by omega)).2]
  by_cases hlt : 0 < ln i
  · rw [if_pos (by simpa using hlt), chk_true (by simp <;> omega), chk_true (by simp; exact hlt), Int.toNat_natCast, Int.toNat_natCast]
    exact go f 1 _ (by omega) (by omega) (CI_step (j := 0) (row := fun _ _ => .nilp) (fun j' hj => absurd hj (by omega)) ((hcell 0 (by omega)).1 hlt))
  · rw [if_neg (by simpa using hlt)]
    exact go f 1 _ (by omega) (by omega) (CI_step (j := 0) (row := fun _ _ => .nilp) (fun j' hj => absurd hj (by omega)) ((hcell 0 (by omega)).2 hlt))
theorem ilr_2_27 (fl mm n0 m0 l : Nat) (k q : Int) (nr row : Nat → Nat → PS) (ln : Nat → Nat) (V : Nat → Nat → Int) (i : Nat) (orow : Nat → Nat → PS) (hl : 1 ≤ l ∧ l ≤ 6) (hi : i < m0 ∧ i < 4) (hO : CO 2 l ln V i orow) (hf : 10 ≤ fl) :
    ∃ orow', CO 2 l ln V (i + 1) orow' ∧ rounds (yC3 fl) (kC3 fl mm k 2 n0 m0 nr (q_s2 ln V) q i (((93, .rows 52 1 i orow) :: (27, .rows 9 1 l row) :: bC1 k 2 n0 m0 nr (q_s2 ln V) (.os 27) (.os 93)) : Heap)) fl (hC3 k 2 n0 m0 nr (q_s2 ln V) q i l .nils (0 : Nat)) (((93, .rows 52 1 i orow) :: (27, .rows 9 1 l row) :: bC1 k 2 n0 m0 nr (q_s2 ln V) (.os 27) (.os 93)) : Heap) = rounds (yC2 fl) (kC2 fl) mm (hC2 k 2 n0 m0 nr (q_s2 ln V) q ((i + 1 : Nat) : Int)) ((93, .rows 52 1 (i + 1) orow') :: (27, .rows 9 1 l row) :: bC1 k 2 n0 m0 nr (q_s2 ln V) (.os 27) (.os 93)) := by
  have hb : (if (2 : Int) = 1 then (0 : Int) else -1000) = (-1000) := by decide
  have hcell : ∀ j : Nat, j < l → (j < ln i → q_within (V i j) (-1000) 1000 = q_bv 2 ln V i j) ∧ (¬ j < ln i → q_within (W (W (5 * j) + i)) (-1000) 1000 = q_bv 2 ln V i j) := fun j hj => by
    refine ⟨fun h => ?_, fun h => ?_⟩
    · unfold q_bv; rw [if_pos h, hb]
    · unfold q_bv; rw [if_neg h, hb]
  have go := loop_ex (body := yC3 fl) (K := kC3 fl mm k 2 n0 m0 nr (q_s2 ln V) q i (((93, .rows 52 1 i orow) :: (27, .rows 9 1 l row) :: bC1 k 2 n0 m0 nr (q_s2 ln V) (.os 27) (.os 93)) : Heap)) (σ := Nat → Nat → PS) (fun j _ => hC3 k 2 n0 m0 nr (q_s2 ln V) q i l (.os 82) (j : Int)) (fun j srow => (82, .rows 3 1 j srow) :: (((93, .rows 52 1 i orow) :: (27, .rows 9 1 l row) :: bC1 k 2 n0 m0 nr (q_s2 ln V) (.os 27) (.os 93)) : Heap)) (fun j srow => CI 2 ln V i j srow) l (Z := fun z => ∃ orow', CO 2 l ln V (i + 1) orow' ∧ z = rounds (yC2 fl) (kC2 fl) mm (hC2 k 2 n0 m0 nr (q_s2 ln V) q ((i + 1 : Nat) : Int)) ((93, .rows 52 1 (i + 1) orow') :: (27, .rows 9 1 l row) :: bC1 k 2 n0 m0 nr (q_s2 ln V) (.os 27) (.os 93))) (by
    intro j srow m1 hj hI
    have hW := (C_small (i := j) (by omega)).2
    rw [irr_2_27, if_pos (by simp <;> omega), chk_true (by simp <;> omega), hW]
    by_cases hlt : j < ln i
    · rw [if_pos (by simpa using hlt), chk_true (by simp <;> omega), chk_true (by simp; exact hlt), if_pos (by simp <;> omega), Int.toNat_natCast, Int.toNat_natCast]
      exact ⟨_, CI_step hI ((hcell j hj).1 hlt), rfl⟩
    · rw [if_neg (by simpa using hlt), if_pos (by simp <;> omega)]
      exact ⟨_, CI_step hI ((hcell j hj).2 hlt), rfl⟩) (by
    intro srow m1 hI
    rw [irr_2_27, if_neg (by simp), W_nat (i := i) (by omega), if_pos (by simp <;> omega)]
    exact ⟨_, CO_step hO hI, rfl⟩)
  obtain ⟨f, rfl⟩ : ∃ f', fl = f' + 1 := ⟨fl - 1, by omega⟩
  rw [irn_2_27, if_pos (by simp <;> omega), chk_true (by simp <;> omega), (C_small (i := 0) (by omega)).2]
  by_cases hlt : 0 < ln i
  · rw [if_pos (by simpa using hlt), chk_true (by simp <;> omega), chk_true (by simp; exact hlt), Int.toNat_natCast, Int.toNat_natCast]
    exact go f 1 _ (by omega) (by omega) (CI_step (j := 0) (row := fun _ _ => .nilp) (fun j' hj => absurd hj (by omega)) ((hcell 0 (by omega)).1 hlt))
  · rw [if_neg (by simpa using hlt)]
    exact go f 1 _ (by omega) (by omega) (CI_step (j := 0) (row := fun _ _ => .nilp) (fun j' hj => absurd hj (by omega)) ((hcell 0 (by omega)).2 hlt))
theorem iln_2_33 (fl mm n0 m0 l : Nat) (k q : Int) (nr row : Nat → Nat → PS) (ln : Nat → Nat) (V : Nat → Nat → Int) (i : Nat) (hl : 1 ≤ l ∧ l ≤ 6) (hi : i < m0 ∧ i < 4) (hz : i = 0) (hf : 10 ≤ fl) :
    ∃ orow', CO 2 l ln V (i + 1) orow' ∧ rounds (yC3 fl) (kC3 fl mm k 2 n0 m0 nr (q_s2 ln V) q i (((33, .rows 9 1 l row) :: bC1 k 2 n0 m0 nr (q_s2 ln V) (.os 33) .nils) : Heap)) fl (hC3 k 2 n0 m0 nr (q_s2 ln V) q i l .nils (0 : Nat)) (((33, .rows 9 1 l row) :: bC1 k 2 n0 m0 nr (q_s2 ln V) (.os 33) .nils) : Heap) = rounds (yC2 fl) (kC2 fl) mm (hC2 k 2 n0 m0 nr (q_s2 ln V) q ((i + 1 : Nat) : Int)) ((93, .rows 52 1 (i + 1) orow') :: (33, .rows 9 1 l row) :: bC1 k 2 n0 m0 nr (q_s2 ln V) (.os 33) (.os 93)) := by
  have hb : (if (2 : Int) = 1 then (0 : Int) else -1000) = (-1000) := by decide
  have hcell : ∀ j : Nat, j < l → (j < ln i → q_within (V i j) (-1000) 1000 = q_bv 2 ln V i j) ∧ (¬ j < ln i → q_within (W (W (5 * j) + i)) (-1000) 1000 = q_bv 2 ln V i j) := fun j hj => by
    refine ⟨fun h => ?_, fun h => ?_⟩
    · unfold q_bv; rw [if_pos h, hb]
    · unfold q_bv; rw [if_neg h, hb]
  have go := loop_ex (body := yC3 fl) (K := kC3 fl mm k 2 n0 m0 nr (q_s2 ln V) q i (((33, .rows 9 1 l row) :: bC1 k 2 n0 m0 nr (q_s2 ln V) (.os 33) .nils) : Heap)) (σ := Nat → Nat → PS) (fun j _ => hC3 k 2 n0 m0 nr (q_s2 ln V) q i l (.os 82) (j : Int)) (fun j srow => (82, .rows 3 1 j srow) :: (((33, .rows 9 1 l row) :: bC1 k 2 n0 m0 nr (q_s2 ln V) (.os 33) .nils) : Heap)) (fun j srow => CI 2 ln V i j srow) l (Z := fun z => ∃ orow', CO 2 l ln V (i + 1) orow' ∧ z = rounds (yC2 fl) (kC2 fl) mm (hC2 k 2 n0 m0 nr (q_s2 ln V) q ((i + 1 : Nat) : Int)) ((93, .rows 52 1 (i + 1) orow') :: (33, .rows 9 1 l row) :: bC1 k 2 n0 m0 nr (q_s2 ln V) (.os 33) (.os 93))) (by
    intro j srow m1 hj hI
    have hW := (C_small (i := j) (by omega)).2
    rw [inr_2_33, if_pos (by simp <;> omega), chk_true (by simp <;> omega), hW]
    by_cases hlt : j < ln i
    · rw [if_pos (by simpa using hlt), chk_true (by simp <;> omega), chk_true (by simp; exact hlt), if_pos (by simp <;> omega), Int.toNat_natCast, Int.toNat_natCast]
      exact ⟨_, CI_step hI ((hcell j hj).1 hlt), rfl⟩
    · rw [if_neg (by simpa using hlt), if_pos (by simp <;> omega)]
      exact ⟨_, CI_step hI ((hcell j hj).2 hlt), rfl⟩) (by
    intro srow m1 hI
    rw [inr_2_33, if_neg (by simp), W_nat (i := i) (by omega)]
    exact ⟨_, CO_step (row := fun _ _ => .nilp) (by subst hz; intro i' hi; omega) hI, by subst hz; rfl⟩)
  obtain ⟨f, rfl⟩ : ∃ f', fl = f' + 1 := ⟨fl - 1, by omega⟩
  rw [inn_2_33, if_pos (by simp <;> omega), chk_true (by simp <;> omega), (C_small (i := 0) (by omega)).2]
  by_cases hlt : 0 < ln i
  · rw [if_pos (by simpa using hlt), chk_true (by simp <;> omega), chk_true (by simp; exact hlt), Int.toNat_natCast, Int.toNat_natCast]
    exact go f 1 _ (by omega) (by omega) (CI_step (j := 0) (row := fun _ _ => .nilp) (fun j' hj => absurd hj (by omega)) ((hcell 0 (by omega)).1 hlt))
  · rw [if_neg (by simpa using hlt)]
    exact go f 1 _ (by omega) (by omega) (CI_step (j := 0) (row := fun _ _ => .nilp) (fun j' hj => absurd hj (by omega)) ((hcell 0 (by omega)).2 hlt))
theorem ilr_2_33 (fl mm n0 m0 l : Nat) (k q : Int) (nr row : Nat → Nat → PS) (ln : Nat → Nat) (V : Nat → Nat → Int) (i : Nat) (orow : Nat → Nat → PS) (hl : 1 ≤ l ∧ l ≤ 6) (hi : i < m0 ∧ i < 4) (hO : CO 2 l ln V i orow) (hf : 10 ≤ fl) :
    ∃ orow', CO 2 l ln V (i + 1) orow' ∧ rounds (yC3 fl) (kC3 fl mm k 2 n0 m0 nr (q_s2 ln V) q i (((93, .rows 52 1 i orow) :: (33, .rows 9 1 l row) :: bC1 k 2 n0 m0 nr (q_s2 ln V) (.os 33) (.os 93)) : Heap)) fl (hC3 k 2 n0 m0 nr (q_s2 ln V) q i l .nils (0 : Nat)) (((93, .rows 52 1 i orow) :: (33, .rows 9 1 l row) :: bC1 k 2 n0 m0 nr (q_s2 ln V) (.os 33) (.os 93)) : Heap) = rounds (yC2 fl) (kC2 fl) mm (hC2 k 2 n0 m0 nr (q_s2 ln V) q ((i + 1 : Nat) : Int)) ((93, .rows 52 1 (i + 1) orow') :: (33, .rows 9 1 l row) :: bC1 k 2 n0 m0 nr (q_s2 ln V) (.os 33) (.os 93)) := by
  have hb : (if (2 : Int) = 1 then (0 : Int) else -1000) = (-1000) := by decide
  have hcell : ∀ j : Nat, j < l → (j < ln i → q_within (V i j) (-1000) 1000 = q_bv 2 ln V i j) ∧ (¬ j < ln i → q_within (W (W (5 * j) + i)) (-1000) 1000 = q_bv 2 ln V i j) := fun j hj => by
    refine ⟨fun h => ?_, fun h => ?_⟩
    · unfold q_bv; rw [if_pos h, hb]
    · unfold q_bv; rw [if_neg h, hb]
  have go := loop_ex (body := yC3 fl) (K := kC3 fl mm k 2 n0 m0 nr (q_s2 ln V) q i (((93, .rows 52 1 i orow) :: (33, .rows 9 1 l row) :: bC1 k 2 n0 m0 nr (q_s2 ln V) (.os 33) (.os 93)) : Heap)) (σ := Nat → Nat → PS) (fun j _ => hC3 k 2 n0 m0 nr (q_s2 ln V) q i l (.os 82) (j : Int)) (fun j srow => (82, .rows 3 1 j srow) :: (((93, .rows 52 1 i orow) :: (33, .rows 9 1 l row) :: bC1 k 2 n0 m0 nr (q_s2 ln V) (.os 33) (.os 93)) : Heap)) (fun j srow => CI 2 ln V i j srow) l (Z := fun z => ∃ orow', CO 2 l ln V (i + 1) orow' ∧ z = rounds (yC2 fl) (kC2 fl) mm (hC2 k 2 n0 m0 nr (q_s2 ln V) q ((i + 1 : Nat) : Int)) ((93, .rows 52 1 (i + 1) orow') :: (33, .rows 9 1 l row) :: bC1 k 2 n0 m0 nr (q_s2 ln V) (.os 33) (.os 93))) (by
    intro j srow m1 hj hI
    have hW := (C_small (i := j) (by omega)).2
    rw [irr_2_33, if_pos (by simp <;> omega), chk_true (by simp <;> omega), hW]
    by_cases hlt : j < ln i
    · rw [if_pos (by simpa using hlt), chk_true (by simp <;> omega), chk_true (by simp; exact hlt), if_pos (by simp <;> omega), Int.toNat_natCast, Int.toNat_natCast]
      exact ⟨_, CI_step hI ((hcell j hj).1 hlt), rfl⟩
    · rw [if_neg (by simpa using hlt), if_pos (by simp <;> omega)]
      exact ⟨_, CI_step hI ((hcell j hj).2 hlt), rfl⟩) (by
    intro srow m1 hI
    rw [irr_2_33, if_neg (by simp), W_nat (i := i) (by omega), if_pos (by simp <;> omega)]
    exact ⟨_, CO_step hO hI, rfl⟩)
  obtain ⟨f, rfl⟩ : ∃ f', fl = f' + 1 := ⟨fl - 1, by omega⟩
  rw [irn_2_33, if_pos (by simp <;> omega), chk_true (by simp <;> omega), (C_small (i := 0) (by omega)).2]
  by_cases hlt : 0 < ln i
  · rw [if_pos (by simpa using hlt), chk_true (by simp <;> omega), chk_true (by simp; exact hlt), Int.toNat_natCast, Int.toNat_natCast]
    exact go f 1 _ (by omega) (by omega) (CI_step (j := 0) (row := fun _ _ => .nilp) (fun j' hj => absurd hj (by omega)) ((hcell 0 (by omega)).1 hlt))
  · rw [if_neg (by simpa using hlt)]
    exact go f 1 _ (by omega) (by omega) (CI_step (j := 0) (row := fun _ _ => .nilp) (fun j' hj => absurd hj (by omega)) ((hcell 0 (by omega)).2 hlt))
end Go.Proofs.Ytfemkfodakfcmaa.Sh
