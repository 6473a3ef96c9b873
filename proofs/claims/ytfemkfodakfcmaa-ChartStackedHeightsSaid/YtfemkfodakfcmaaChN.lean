import Derived.Test.YtfemkfodakfcmaaChM
namespace Go.Proofs.Ytfemkfodakfcmaa.Sh
open Go Go.RowKit Go.Proofs.Ytfemkfodakfcmaa.Ev Go.Proofs.Try
set_option maxRecDepth 100000
set_option linter.unusedVariables false
def q_nn (n0 : Nat) : Nat := if n0 = 0 then 1 else min n0 6
def q_mm (m0 : Nat) : Nat := if m0 = 0 then 1 else min m0 4
def q_bX (kd : Int) (m0 : Nat) (ln : Nat → Nat) (V : Nat → Nat → Int) : Nat → Nat → Int := if m0 = 0 then fun _ _ => 0 else q_bv kd ln V
theorem nn_le (n0 : Nat) : 1 ≤ q_nn n0 ∧ q_nn n0 ≤ 6 := by unfold q_nn; split <;> omega
theorem mm_le (m0 : Nat) : 1 ≤ q_mm m0 ∧ q_mm m0 ≤ 4 := by unfold q_mm; split <;> omega
theorem bX_le (kd : Int) (m0 : Nat) (ln : Nat → Nat) (V : Nat → Nat → Int) (i j : Nat) : (-1000 ≤ q_bX kd m0 ln V i j ∧ q_bX kd m0 ln V i j ≤ 1000) ∧ (kd = 1 → 0 ≤ q_bX kd m0 ln V i j) := by
  unfold q_bX
  split
  · simp
  · exact bv_le kd ln V i j
theorem ol_0_27 (fl n0 m0 l : Nat) (k q : Int) (nr row : Nat → Nat → PS) (ln : Nat → Nat) (V : Nat → Nat → Int) (hl : 1 ≤ l ∧ l ≤ 6) (hrow : ∀ i, i < l → row i 0 = .str ⟨⟨[110]⟩⟩) (hf : 10 ≤ fl) :
    CZ 0 l (q_mm m0) (q_bX 0 m0 ln V) (rounds (yC2 fl) (kC2 fl) fl (hC2 k 0 n0 m0 nr (q_s2 ln V) q (0 : Nat)) (((27, .rows 9 1 l row) :: bC1 k 0 n0 m0 nr (q_s2 ln V) (.os 27) .nils) : Heap)) := by
  obtain ⟨f, rfl⟩ : ∃ f', fl = f' + 1 := ⟨fl - 1, by omega⟩
  rw [on_0_27]
  by_cases h0 : m0 = 0
  · subst h0
    rw [if_neg (by simp), if_pos (by simp <;> omega)]
    refine ⟨row, _, rfl, hrow, fun i hi => agS.eqs (fun a b ha hb => ?_)⟩
    obtain rfl : b = 0 := by omega
    rfl
  · rw [if_pos (by simp <;> omega)]
    have em : q_mm m0 = min m0 4 := by unfold q_mm; rw [if_neg h0]
    have ex : q_bX 0 m0 ln V = q_bv 0 ln V := by unfold q_bX; rw [if_neg h0]
    rw [em, ex]
    obtain ⟨orow, q1, q2⟩ := iln_0_27 (f + 1) f n0 m0 l k q nr row ln V 0 hl (by omega) rfl (by omega)
    have go := loop_ex (body := yC2 (f + 1)) (K := kC2 (f + 1)) (σ := Nat → Nat → PS) (fun i _ => hC2 k 0 n0 m0 nr (q_s2 ln V) q ((i : Nat) : Int)) (fun i orow => (((93, .rows 52 1 i orow) :: (27, .rows 9 1 l row) :: bC1 k 0 n0 m0 nr (q_s2 ln V) (.os 27) (.os 93)) : Heap)) (fun i orow => CO 0 l ln V i orow ∧ 1 ≤ i) (min m0 4) (Z := fun x => CZ 0 l (min m0 4) (q_bv 0 ln V) x) (by
      intro i orow mm hi hI
      obtain ⟨orow', q1, q2⟩ := ilr_0_27 (f + 1) mm n0 m0 l k q nr row ln V i orow hl (by omega) hI.1 (by omega)
      refine ⟨orow', ⟨q1, by omega⟩, ?_⟩
      rw [or_0_27, if_pos (by simp <;> omega)]
      exact q2) (by
      intro orow mm hI
      rw [or_0_27, if_neg (by simp <;> omega), if_neg (by simp <;> omega)]
      exact ⟨row, orow, rfl, hrow, hI.1⟩)
    exact q2 ▸ go f 1 orow (by omega) (by omega) ⟨q1, by omega⟩
theorem ol_0_33 (fl n0 m0 l : Nat) (k q : Int) (nr row : Nat → Nat → PS) (ln : Nat → Nat) (V : Nat → Nat → Int) (hl : 1 ≤ l ∧ l ≤ 6) (hrow : ∀ i, i < l → row i 0 = .str ⟨⟨[110]⟩⟩) (hf : 10 ≤ fl) :
    CZ 0 l (q_mm m0) (q_bX 0 m0 ln V) (rounds (yC2 fl) (kC2 fl) fl (hC2 k 0 n0 m0 nr (q_s2 ln V) q (0 : Nat)) (((33, .rows 9 1 l row) :: bC1 k 0 n0 m0 nr (q_s2 ln V) (.os 33) .nils) : Heap)) := by
  obtain ⟨f, rfl⟩ : ∃ f', fl = f' + 1 := ⟨fl - 1, by omega⟩
  rw [on_0_33]
  by_cases h0 : m0 = 0
  · subst h0
    rw [if_neg (by simp), if_pos (by simp <;> omega)]
    refine ⟨row, _, rfl, hrow, fun i hi => agS.eqs (fun a b ha hb => ?_)⟩
    obtain rfl : b = 0 := by omega
    rfl
  · rw [if_pos (by simp <;> omega)]
    have em : q_mm m0 = min m0 4 := by unfold q_mm; rw [if_neg h0]
    have ex : q_bX 0 m0 ln V = q_bv 0 ln V := by unfold q_bX; rw [if_neg h0]
    rw [em, ex]
    obtain ⟨orow, q1, q2⟩ := iln_0_33 (f + 1) f n0 m0 l k q nr row ln V 0 hl (by omega) rfl (by omega)
    have go := loop_ex (body := yC2 (f + 1)) (K := kC2 (f + 1)) (σ := Nat → Nat → PS) (fun i _ => hC2 k 0 n0 m0 nr (q_s2 ln V) q ((i : Nat) : Int)) (fun i orow => (((93, .rows 52 1 i orow) :: (33, .rows 9 1 l row) :: bC1 k 0 n0 m0 nr (q_s2 ln V) (.os 33) (.os 93)) : Heap)) (fun i orow => CO 0 l ln V i orow ∧ 1 ≤ i) (min m0 4) (Z := fun x => CZ 0 l (min m0 4) (q_bv 0 ln V) x) (by
      intro i orow mm hi hI
      obtain ⟨orow', q1, q2⟩ := ilr_0_33 (f + 1) mm n0 m0 l k q nr row ln V i orow hl (by omega) hI.1 (by omega)
      refine ⟨orow', ⟨q1, by omega⟩, ?_⟩
      rw [or_0_33, if_pos (by simp <;> omega)]
      exact q2) (by
      intro orow mm hI
      rw [or_0_33, if_neg (by simp <;> omega), if_neg (by simp <;> omega)]
      exact ⟨row, orow, rfl, hrow, hI.1⟩)
    exact q2 ▸ go f 1 orow (by omega) (by omega) ⟨q1, by omega⟩
theorem ol_1_27 (fl n0 m0 l : Nat) (k q : Int) (nr row : Nat → Nat → PS) (ln : Nat → Nat) (V : Nat → Nat → Int) (hl : 1 ≤ l ∧ l ≤ 6) (hrow : ∀ i, i < l → row i 0 = .str ⟨⟨[110]⟩⟩) (hf : 10 ≤ fl) :
    CZ 1 l (q_mm m0) (q_bX 1 m0 ln V) (rounds (yC2 fl) (kC2 fl) fl (hC2 k 1 n0 m0 nr (q_s2 ln V) q (0 : Nat)) (((27, .rows 9 1 l row) :: bC1 k 1 n0 m0 nr (q_s2 ln V) (.os 27) .nils) : Heap)) := by
  obtain ⟨f, rfl⟩ : ∃ f', fl = f' + 1 := ⟨fl - 1, by omega⟩
  rw [on_1_27]
  by_cases h0 : m0 = 0
  · subst h0
    rw [if_neg (by simp), if_pos (by simp <;> omega)]
    refine ⟨row, _, rfl, hrow, fun i hi => agS.eqs (fun a b ha hb => ?_)⟩
    obtain rfl : b = 0 := by omega
    rfl
  · rw [if_pos (by simp <;> omega)]
    have em : q_mm m0 = min m0 4 := by unfold q_mm; rw [if_neg h0]
    have ex : q_bX 1 m0 ln V = q_bv 1 ln V := by unfold q_bX; rw [if_neg h0]
    rw [em, ex]
    obtain ⟨orow, q1, q2⟩ := iln_1_27 (f + 1) f n0 m0 l k q nr row ln V 0 hl (by omega) rfl (by omega)
    have go := loop_ex (body := yC2 (f + 1)) (K := kC2 (f + 1)) (σ := Nat → Nat → PS) (fun i _ => hC2 k 1 n0 m0 nr (q_s2 ln V) q ((i : Nat) : Int)) (fun i orow => (((93, .rows 52 1 i orow) :: (27, .rows 9 1 l row) :: bC1 k 1 n0 m0 nr (q_s2 ln V) (.os 27) (.os 93)) : Heap)) (fun i orow => CO 1 l ln V i orow ∧ 1 ≤ i) (min m0 4) (Z := fun x => CZ 1 l (min m0 4) (q_bv 1 ln V) x) (by
      intro i orow mm hi hI
      obtain ⟨orow', q1, q2⟩ := ilr_1_27 (f + 1) mm n0 m0 l k q nr row ln V i orow hl (by omega) hI.1 (by omega)
      refine ⟨orow', ⟨q1, by omega⟩, ?_⟩
      rw [or_1_27, if_pos (by simp <;> omega)]
      exact q2) (by
      intro orow mm hI
      rw [or_1_27, if_neg (by simp <;> omega), if_neg (by simp <;> omega)]
      exact ⟨row, orow, rfl, hrow, hI.1⟩)
    exact q2 ▸ go f 1 orow (by omega) (by omega) ⟨q1, by omega⟩
theorem ol_1_33 (fl n0 m0 l : Nat) (k q : Int) (nr row : Nat → Nat → PS) (ln : Nat → Nat) (V : Nat → Nat → Int) (hl : 1 ≤ l ∧ l ≤ 6) (hrow : ∀ i, i < l → row i 0 = .str ⟨⟨[110]⟩⟩) (hf : 10 ≤ fl) :
    CZ 1 l (q_mm m0) (q_bX 1 m0 ln V) (rounds (yC2 fl) (kC2 fl) fl (hC2 k 1 n0 m0 nr (q_s2 ln V) q (0 : Nat)) (((33, .rows 9 1 l row) :: bC1 k 1 n0 m0 nr (q_s2 ln V) (.os 33) .nils) : Heap)) := by
  obtain ⟨f, rfl⟩ : ∃ f', fl = f' + 1 := ⟨fl - 1, by omega⟩
  rw [on_1_33]
  by_cases h0 : m0 = 0
  · subst h0
    rw [if_neg (by simp), if_pos (by simp <;> omega)]
    refine ⟨row, _, rfl, hrow, fun i hi => agS.eqs (fun a b ha hb => ?_)⟩
    obtain rfl : b = 0 := by omega
    rfl
  · rw [if_pos (by simp <;> omega)]
    have em : q_mm m0 = min m0 4 := by unfold q_mm; rw [if_neg h0]
    have ex : q_bX 1 m0 ln V = q_bv 1 ln V := by unfold q_bX; rw [if_neg h0]
    rw [em, ex]
    obtain ⟨orow, q1, q2⟩ := iln_1_33 (f + 1) f n0 m0 l k q nr row ln V 0 hl (by omega) rfl (by omega)
    have go := loop_ex (body := yC2 (f + 1)) (K := kC2 (f + 1)) (σ := Nat → Nat → PS) (fun i _ => hC2 k 1 n0 m0 nr (q_s2 ln V) q ((i : Nat) : Int)) (fun i orow => (((93, .rows 52 1 i orow) :: (33, .rows 9 1 l row) :: bC1 k 1 n0 m0 nr (q_s2 ln V) (.os 33) (.os 93)) : Heap)) (fun i orow => CO 1 l ln V i orow ∧ 1 ≤ i) (min m0 4) (Z := fun x => CZ 1 l (min m0 4) (q_bv 1 ln V) x) (by
      intro i orow mm hi hI
      obtain ⟨orow', q1, q2⟩ := ilr_1_33 (f + 1) mm n0 m0 l k q nr row ln V i orow hl (by omega) hI.1 (by omega)
      refine ⟨orow', ⟨q1, by omega⟩, ?_⟩
      rw [or_1_33, if_pos (by simp <;> omega)]
      exact q2) (by
      intro orow mm hI
      rw [or_1_33, if_neg (by simp <;> omega), if_neg (by simp <;> omega)]
      exact ⟨row, orow, rfl, hrow, hI.1⟩)
    exact q2 ▸ go f 1 orow (by omega) (by omega) ⟨q1, by omega⟩
theorem ol_2_27 (fl n0 m0 l : Nat) (k q : Int) (nr row : Nat → Nat → PS) (ln : Nat → Nat) (V : Nat → Nat → Int) (hl : 1 ≤ l ∧ l ≤ 6) (hrow : ∀ i, i < l → row i 0 = .str ⟨⟨[110]⟩⟩) (hf : 10 ≤ fl) :
    CZ 2 l (q_mm m0) (q_bX 2 m0 ln V) (rounds (yC2 fl) (kC2 fl) fl (hC2 k 2 n0 m0 nr (q_s2 ln V) q (0 : Nat)) (((27, .rows 9 1 l row) :: bC1 k 2 n0 m0 nr (q_s2 ln V) (.os 27) .nils) : Heap)) := by
  obtain ⟨f, rfl⟩ : ∃ f', fl = f' + 1 := ⟨fl - 1, by omega⟩
  rw [on_2_27]
  by_cases h0 : m0 = 0
  · subst h0
    rw [if_neg (by simp), if_pos (by simp <;> omega)]
    refine ⟨row, _, rfl, hrow, fun i hi => agS.eqs (fun a b ha hb => ?_)⟩
    obtain rfl : b = 0 := by omega
    rfl
  · rw [if_pos (by simp <;> omega)]
    have em : q_mm m0 = min m0 4 := by unfold q_mm; rw [if_neg h0]
    have ex : q_bX 2 m0 ln V = q_bv 2 ln V := by unfold q_bX; rw [if_neg h0]
    rw [em, ex]
    obtain ⟨orow, q1, q2⟩ := iln_2_27 (f + 1) f n0 m0 l k q nr row ln V 0 hl (by omega) rfl (by omega)
    have go := loop_ex (body := yC2 (f + 1)) (K := kC2 (f + 1)) (σ := Nat → Nat → PS) (fun i _ => hC2 k 2 n0 m0 nr (q_s2 ln V) q ((i : Nat) : Int)) (fun i orow => (((93, .rows 52 1 i orow) :: (27, .rows 9 1 l row) :: bC1 k 2 n0 m0 nr (q_s2 ln V) (.os 27) (.os 93)) : Heap)) (fun i orow => CO 2 l ln V i orow ∧ 1 ≤ i) (min m0 4) (Z := fun x => CZ 2 l (min m0 4) (q_bv 2 ln V) x) (by
      intro i orow mm hi hI
      obtain ⟨orow', q1, q2⟩ := ilr_2_27 (f + 1) mm n0 m0 l k q nr row ln V i orow hl (by omega) hI.1 (by omega)
      refine ⟨orow', ⟨q1, by omega⟩, ?_⟩
      rw [or_2_27, if_pos (by simp <;> omega)]
      exact q2) (by
      intro orow mm hI
      rw [or_2_27, if_neg (by simp <;> omega), if_neg (by simp <;> omega)]
      exact ⟨row, orow, rfl, hrow, hI.1⟩)
    exact q2 ▸ go f 1 orow (by omega) (by omega) ⟨q1, by omega⟩
theorem ol_2_33 (fl n0 m0 l : Nat) (k q : Int) (nr row : Nat → Nat → PS) (ln : Nat → Nat) (V : Nat → Nat → Int) (hl : 1 ≤ l ∧ l ≤ 6) (hrow : ∀ i, i < l → row i 0 = .str ⟨⟨[110]⟩⟩) (hf : 10 ≤ fl) :
    CZ 2 l (q_mm m0) (q_bX 2 m0 ln V) (rounds (yC2 fl) (kC2 fl) fl (hC2 k 2 n0 m0 nr (q_s2 ln V) q (0 : Nat)) (((33, .rows 9 1 l row) :: bC1 k 2 n0 m0 nr (q_s2 ln V) (.os 33) .nils) : Heap)) := by
  obtain ⟨f, rfl⟩ : ∃ f', fl = f' + 1 := ⟨fl - 1, by omega⟩
  rw [on_2_33]
  by_cases h0 : m0 = 0
  · subst h0
    rw [if_neg (by simp), if_pos (by simp <;> omega)]
    refine ⟨row, _, rfl, hrow, fun i hi => agS.eqs (fun a b ha hb => ?_)⟩
    obtain rfl : b = 0 := by omega
    rfl
  · rw [if_pos (by simp <;> omega)]
    have em : q_mm m0 = min m0 4 := by unfold q_mm; rw [if_neg h0]
    have ex : q_bX 2 m0 ln V = q_bv 2 ln V := by unfold q_bX; rw [if_neg h0]
    rw [em, ex]
    obtain ⟨orow, q1, q2⟩ := iln_2_33 (f + 1) f n0 m0 l k q nr row ln V 0 hl (by omega) rfl (by omega)
    have go := loop_ex (body := yC2 (f + 1)) (K := kC2 (f + 1)) (σ := Nat → Nat → PS) (fun i _ => hC2 k 2 n0 m0 nr (q_s2 ln V) q ((i : Nat) : Int)) (fun i orow => (((93, .rows 52 1 i orow) :: (33, .rows 9 1 l row) :: bC1 k 2 n0 m0 nr (q_s2 ln V) (.os 33) (.os 93)) : Heap)) (fun i orow => CO 2 l ln V i orow ∧ 1 ≤ i) (min m0 4) (Z := fun x => CZ 2 l (min m0 4) (q_bv 2 ln V) x) (by
      intro i orow mm hi hI
      obtain ⟨orow', q1, q2⟩ := ilr_2_33 (f + 1) mm n0 m0 l k q nr row ln V i orow hl (by omega) hI.1 (by omega)
      refine ⟨orow', ⟨q1, by omega⟩, ?_⟩
      rw [or_2_33, if_pos (by simp <;> omega)]
      exact q2) (by
      intro orow mm hI
      rw [or_2_33, if_neg (by simp <;> omega), if_neg (by simp <;> omega)]
      exact ⟨row, orow, rfl, hrow, hI.1⟩)
    exact q2 ▸ go f 1 orow (by omega) (by omega) ⟨q1, by omega⟩
theorem cb_0 (n0 m0 : Nat) (k : Int) (nr : Nat → Nat → PS) (ln : Nat → Nat) (V : Nat → Nat → Int) : CZ 0 (q_nn n0) (q_mm m0) (q_bX 0 m0 ln V) (callF prog gl DY 12 O14 0 16 [.agg [.int .i64 k, .view n0 1 nr, .view m0 1 (q_s2 ln V)], i64 0] []) := by
  refine (nm_pre 12 n0 m0 k 0 nr (q_s2 ln V)).symm ▸ ?_
  refine (nm_one 12 11 n0 m0 k 0 (0 : Nat) nr (q_s2 ln V)).symm ▸ ?_
  by_cases h0 : n0 = 0
  · subst h0
    rw [if_neg (by simp)]
    exact ol_0_33 12 0 m0 1 k (0 : Nat) nr _ ln V (by omega) (fun i hi => rfl) (by omega)
  · rw [if_pos (by simp <;> omega), W_nat (i := 0) (by omega)]
    have en : q_nn n0 = min n0 6 := by unfold q_nn; rw [if_neg h0]
    rw [en]
    refine loop_ex (body := yC1 12) (K := kC1 12) (σ := Nat → Nat → PS) (fun i _ => hC1 k 0 n0 m0 nr (q_s2 ln V) ((i : Nat) : Int)) (fun i row => (((27, .rows 9 1 i row) :: bC1 k 0 n0 m0 nr (q_s2 ln V) (.os 27) .nils) : Heap)) (fun i row => (∀ i', i' < i → row i' 0 = .str ⟨⟨[110]⟩⟩) ∧ 1 ≤ i) (min n0 6) (Z := fun x => CZ 0 (min n0 6) (q_mm m0) (q_bX 0 m0 ln V) x) ?_ ?_ 11 1 _ (by omega) (by omega) ⟨fun i' hi => rfl, by omega⟩
    · intro i row mm hi hI
      rw [nm_st, if_pos (by simp <;> omega), if_pos (by simp <;> omega), W_nat (by omega)]
      refine ⟨_, ⟨fun i' hi' => ?_, by omega⟩, rfl⟩
      unfold appRow
      by_cases e : i' = i
      · subst e; rw [if_neg (by omega)]; rfl
      · rw [if_pos (by omega)]; exact hI.1 i' (by omega)
    · intro row mm hI
      rw [nm_st, if_neg (by simp <;> omega), if_neg (by simp <;> omega)]
      exact ol_0_27 12 n0 m0 (min n0 6) k _ nr row ln V (by omega) hI.1 (by omega)
theorem cb_1 (n0 m0 : Nat) (k : Int) (nr : Nat → Nat → PS) (ln : Nat → Nat) (V : Nat → Nat → Int) : CZ 1 (q_nn n0) (q_mm m0) (q_bX 1 m0 ln V) (callF prog gl DY 12 O14 0 16 [.agg [.int .i64 k, .view n0 1 nr, .view m0 1 (q_s2 ln V)], i64 1] []) := by
  refine (nm_pre 12 n0 m0 k 1 nr (q_s2 ln V)).symm ▸ ?_
  refine (nm_one 12 11 n0 m0 k 1 (0 : Nat) nr (q_s2 ln V)).symm ▸ ?_
  by_cases h0 : n0 = 0
  · subst h0
    rw [if_neg (by simp)]
    exact ol_1_33 12 0 m0 1 k (0 : Nat) nr _ ln V (by omega) (fun i hi => rfl) (by omega)
  · rw [if_pos (by simp <;> omega), W_nat (i := 0) (by omega)]
    have en : q_nn n0 = min n0 6 := by unfold q_nn; rw [if_neg h0]
    rw [en]
    refine loop_ex (body := yC1 12) (K := kC1 12) (σ := Nat → Nat → PS) (fun i _ => hC1 k 1 n0 m0 nr (q_s2 ln V) ((i : Nat) : Int)) (fun i row => (((27, .rows 9 1 i row) :: bC1 k 1 n0 m0 nr (q_s2 ln V) (.os 27) .nils) : Heap)) (fun i row => (∀ i', i' < i → row i' 0 = .str ⟨⟨[110]⟩⟩) ∧ 1 ≤ i) (min n0 6) (Z := fun x => CZ 1 (min n0 6) (q_mm m0) (q_bX 1 m0 ln V) x) ?_ ?_ 11 1 _ (by omega) (by omega) ⟨fun i' hi => rfl, by omega⟩
    · intro i row mm hi hI
      rw [nm_st, if_pos (by simp <;> omega), if_pos (by simp <;> omega), W_nat (by omega)]
      refine ⟨_, ⟨fun i' hi' => ?_, by omega⟩, rfl⟩
      unfold appRow
      by_cases e : i' = i
      · subst e; rw [if_neg (by omega)]; rfl
      · rw [if_pos (by omega)]; exact hI.1 i' (by omega)
    · intro row mm hI
      rw [nm_st, if_neg (by simp <;> omega), if_neg (by simp <;> omega)]
      exact ol_1_27 12 n0 m0 (min n0 6) k _ nr row ln V (by omega) hI.1 (by omega)
theorem cb_2 (n0 m0 : Nat) (k : Int) (nr : Nat → Nat → PS) (ln : Nat → Nat) (V : Nat → Nat → Int) : CZ 2 (q_nn n0) (q_mm m0) (q_bX 2 m0 ln V) (callF prog gl DY 12 O14 0 16 [.agg [.int .i64 k, .view n0 1 nr, .view m0 1 (q_s2 ln V)], i64 2] []) := by
  refine (nm_pre 12 n0 m0 k 2 nr (q_s2 ln V)).symm ▸ ?_
  refine (nm_one 12 11 n0 m0 k 2 (0 : Nat) nr (q_s2 ln V)).symm ▸ ?_
  by_cases h0 : n0 = 0
  · subst h0
    rw [if_neg (by simp)]
    exact ol_2_33 12 0 m0 1 k (0 : Nat) nr _ ln V (by omega) (fun i hi => rfl) (by omega)
  · rw [if_pos (by simp <;> omega), W_nat (i := 0) (by omega)]
    have en : q_nn n0 = min n0 6 := by unfold q_nn; rw [if_neg h0]
    rw [en]
    refine loop_ex (body := yC1 12) (K := kC1 12) (σ := Nat → Nat → PS) (fun i _ => hC1 k 2 n0 m0 nr (q_s2 ln V) ((i : Nat) : Int)) (fun i row => (((27, .rows 9 1 i row) :: bC1 k 2 n0 m0 nr (q_s2 ln V) (.os 27) .nils) : Heap)) (fun i row => (∀ i', i' < i → row i' 0 = .str ⟨⟨[110]⟩⟩) ∧ 1 ≤ i) (min n0 6) (Z := fun x => CZ 2 (min n0 6) (q_mm m0) (q_bX 2 m0 ln V) x) ?_ ?_ 11 1 _ (by omega) (by omega) ⟨fun i' hi => rfl, by omega⟩
    · intro i row mm hi hI
      rw [nm_st, if_pos (by simp <;> omega), if_pos (by simp <;> omega), W_nat (by omega)]
      refine ⟨_, ⟨fun i' hi' => ?_, by omega⟩, rfl⟩
      unfold appRow
      by_cases e : i' = i
      · subst e; rw [if_neg (by omega)]; rfl
      · rw [if_pos (by omega)]; exact hI.1 i' (by omega)
    · intro row mm hI
      rw [nm_st, if_neg (by simp <;> omega), if_neg (by simp <;> omega)]
      exact ol_2_27 12 n0 m0 (min n0 6) k _ nr row ln V (by omega) hI.1 (by omega)
/-- A drawing of the caller's. -/
def q_is2 (sr : Nat → Nat → PS) : Prop := ∃ ln V, sr = q_s2 ln V
def q_ln (sr : Nat → Nat → PS) : Nat → Nat := fun i => match sr i 0 with
  | .view n _ _ => n
  | _ => 0
theorem is2_V {sr : Nat → Nat → PS} (h : q_is2 sr) : sr = q_s2 (q_ln sr) (q_V sr) := by obtain ⟨ln, V, rfl⟩ := h; rfl
def q_nrow : Nat → Nat → PS := fun _ _ => .str ⟨⟨[110]⟩⟩
theorem cb_eq (kd : Int) (hk : kd = 0 ∨ kd = 1 ∨ kd = 2) (n0 m0 : Nat) (k : Int) (nr : Nat → Nat → PS) (ln : Nat → Nat) (V : Nat → Nat → Int) : CZ kd (q_nn n0) (q_mm m0) (q_bX kd m0 ln V) (callF prog gl DY 12 O14 0 16 [.agg [.int .i64 k, .view n0 1 nr, .view m0 1 (q_s2 ln V)], i64 kd] []) := by
  rcases hk with rfl | rfl | rfl
  · exact cb_0 n0 m0 k nr ln V
  · exact cb_1 n0 m0 k nr ln V
  · exact cb_2 n0 m0 k nr ln V
noncomputable def aCb : Nat → List PV → Heap → Option (Bool × PV × Heap)
  | 0, [.agg [.int .i64 k, .view n0 1 nr, .view m0 1 sr], .one (.int .i64 kd)], [] => some (q_dec (q_is2 sr ∧ (kd = 0 ∨ kd = 1 ∨ kd = 2)), .agg [.int .i64 kd, .view (q_nn n0) 1 q_nrow, .view (q_mm m0) 1 (q_sr (q_nn n0) (q_bX kd m0 (q_ln sr) (q_V sr)))], [])
  | _, _, _ => none
noncomputable def O15 : Orac := addM 16 aCb O14
theorem sO15 : Sound prog gl O15 := add_ag (D := DY) sO14 sO14 mo (fun nb vs H v H' h => by
  unfold aCb at h
  split at h
  · rename_i k n0 nr m0 sr kd
    obtain ⟨h1, h2, h3⟩ : q_dec (q_is2 sr ∧ (kd = 0 ∨ kd = 1 ∨ kd = 2)) = true ∧ .agg [.int .i64 kd, .view (q_nn n0) 1 q_nrow, .view (q_mm m0) 1 (q_sr (q_nn n0) (q_bX kd m0 (q_ln sr) (q_V sr)))] = v ∧ [] = H' := by simpa using h
    subst h2 h3
    obtain ⟨g1, g2⟩ := q_dec_iff.1 h1
    obtain ⟨row, orow, e1, e2, e3⟩ := cb_eq kd g2 n0 m0 k nr (q_ln sr) (q_V sr)
    rw [← is2_V g1] at e1
    refine ⟨12, _, _, e1, ?_, .inl rfl⟩
    refine All2.cons (.refl _) (.cons (agS.eqs fun a b ha hb => ?_) (.cons (.view fun a b ha hb => ?_) .nil))
    · obtain rfl : b = 0 := by omega
      exact e2 a ha
    · obtain rfl : b = 0 := by omega
      exact e3 a ha
  · cases h)
end Go.Proofs.Ytfemkfodakfcmaa.Sh
