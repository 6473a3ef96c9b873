import Derived.Test.YtfemkfodakfcmaaChG
namespace Go.Proofs.Ytfemkfodakfcmaa.Sh
open Go Go.RowKit Go.Proofs.Ytfemkfodakfcmaa.Ev Go.Proofs.Try
set_option maxRecDepth 100000
set_option linter.unusedVariables false
/-! stacked -/
abbrev pSt : List Bool := [true, true, true, false]
abbrev hSt (e m : Nat) (sr : Nat → Nat → PS) (i x w s j : Int) : En := [(22, none, i64 j), (21, none, i64 m), (20, none, .one (.view m 1 sr)), (9, none, i64 s), (8, none, .one (.os e)), (0, none, .one (.ptr 0 0)), (1, none, i64 i), (2, none, i64 x), (3, none, i64 w)]
noncomputable abbrev ySt (nb fl : Nat) : En → Heap → (Exit → En → Heap → Option (PV × Heap)) → Option (PV × Heap) := bodyAtK prog gl O11 DY (bif nb == 2 then [1] else []) f48 4 nb fl pSt
noncomputable abbrev kSt (nb fl : Nat) := kAtK prog gl O11 DY (bif nb == 2 then [1] else []) f48 4 nb fl pSt
theorem st_pre1 (fl n m : Nat) (k i x w a b c t : Int) (nr : Nat → Nat → PS) (V : Nat → Nat → Int) : callF prog gl DY fl O11 1 48 [.one (.ptr 0 0), i64 i, i64 x, i64 w] ([(0, mkB k n m nr (q_sr n V) a b c t .nils)]) = (if (q_dec (q_edP w (4 : Int))) = true then (rounds (ySt 1 fl) (kSt 1 fl) fl ([((22 : Nat), none, i64 ((0 : Int))), ((21 : Nat), none, i64 ((↑m : Int))), ((20 : Nat), none, PV.one (PS.view m (1 : Nat) (q_sr n V))), ((9 : Nat), none, i64 ((bif decide (b < bif decide (a > (0 : Int)) then a else (0 : Int)) then b else bif decide (a > (0 : Int)) then a else (0 : Int)))), ((8 : Nat), none, PV.one (PS.os (14 : Nat))), ((0 : Nat), none, PV.one (PS.ptr (0 : Nat) (0 : Nat))), ((1 : Nat), none, i64 (i)), ((2 : Nat), none, i64 (x)), ((3 : Nat), none, i64 (w))]) ([((14 : Nat), OB.rows (3 : Nat) (1 : Nat) (5 : Nat) (q_er w (4 : Int))), ((0 : Nat), OB.box [PS.int IntKind.i64 k, PS.view n (1 : Nat) nr, PS.view m (1 : Nat) (q_sr n V), PS.int IntKind.i64 a, PS.int IntKind.i64 b, PS.int IntKind.i64 c, PS.int IntKind.i64 t, PS.nils])])) else none) := by kernel_rfl
theorem st_pre2 (fl n m l : Nat) (k i x w a b c t : Int) (nr row : Nat → Nat → PS) (V : Nat → Nat → Int) : callF prog gl DY fl O11 2 48 [.one (.ptr 0 0), i64 i, i64 x, i64 w] ([(0, mkB k n m nr (q_sr n V) a b c t (.os 1)), (1, .rows 50 6 l row)]) = (if (q_dec (q_edP w (4 : Int))) = true then (rounds (ySt 2 fl) (kSt 2 fl) fl ([((22 : Nat), none, i64 ((0 : Int))), ((21 : Nat), none, i64 ((↑m : Int))), ((20 : Nat), none, PV.one (PS.view m (1 : Nat) (q_sr n V))), ((9 : Nat), none, i64 ((bif decide (b < bif decide (a > (0 : Int)) then a else (0 : Int)) then b else bif decide (a > (0 : Int)) then a else (0 : Int)))), ((8 : Nat), none, PV.one (PS.os (15 : Nat))), ((0 : Nat), none, PV.one (PS.ptr (0 : Nat) (0 : Nat))), ((1 : Nat), none, i64 (i)), ((2 : Nat), none, i64 (x)), ((3 : Nat), none, i64 (w))]) ([((15 : Nat), OB.rows (3 : Nat) (1 : Nat) (5 : Nat) (q_er w (4 : Int))), ((0 : Nat), OB.box [PS.int IntKind.i64 k, PS.view n (1 : Nat) nr, PS.view m (1 : Nat) (q_sr n V), PS.int IntKind.i64 a, PS.int IntKind.i64 b, PS.int IntKind.i64 c, PS.int IntKind.i64 t, PS.os (1 : Nat)]), ((1 : Nat), OB.rows (50 : Nat) (6 : Nat) l row)])) else none) := by kernel_rfl
abbrev sS1 (k : Int) (n m : Nat) (nr sr : Nat → Nat → PS) (a b c t : Int) (l : Nat) (row : Nat → Nat → PS) (q r : Int) : Heap := [(50, .rows 50 6 l row), (0, mkB k n m nr sr a b c t (.os 50)), (14, .rows 3 1 5 (q_er q r))]
abbrev sS2 (k : Int) (n m : Nat) (nr sr : Nat → Nat → PS) (a b c t : Int) (l : Nat) (row : Nat → Nat → PS) (q r : Int) : Heap := [(1, .rows 50 6 l row), (0, mkB k n m nr sr a b c t (.os 1)), (15, .rows 3 1 5 (q_er q r))]
theorem st_one1 (fl mm n m : Nat) (k i x w a b c t j q r s : Int) (nr : Nat → Nat → PS) (V : Nat → Nat → Int) : rounds (ySt 1 fl) (kSt 1 fl) (mm + 1) (hSt 14 m (q_sr n V) i x w s j) [(14, .rows 3 1 5 (q_er q r)), (0, mkB k n m nr (q_sr n V) a b c t .nils)] = (if (decide (j < (↑m : Int))) = true then (chk true (decide ((0 : Int) ≤ j) && decide (j < (↑m : Int))) (chk true (decide ((0 : Int) ≤ i) && decide (i < (↑n : Int))) (if (q_dec (q_barP a b c t s (W (s + V j.toNat i.toNat)) (0 : Nat))) = true then (chk true (decide ((0 : Int) ≤ i) && decide (i < (↑n : Int))) (rounds (ySt 1 fl) (kSt 1 fl) mm ([((22 : Nat), none, i64 ((W (j + (1 : Int))))), ((21 : Nat), none, i64 ((↑m : Int))), ((20 : Nat), none, PV.one (PS.view m (1 : Nat) (q_sr n V))), ((9 : Nat), none, i64 ((W (s + V j.toNat i.toNat)))), ((8 : Nat), none, PV.one (PS.os (14 : Nat))), ((0 : Nat), none, PV.one (PS.ptr (0 : Nat) (0 : Nat))), ((1 : Nat), none, i64 (i)), ((2 : Nat), none, i64 (x)), ((3 : Nat), none, i64 (w))]) ([((50 : Nat), OB.rows (50 : Nat) (6 : Nat) (1 : Nat) (appRow (0 : Nat) (fun _ _ ↦ PS.nilp) (q_b1 j i (W (x + q * (1 : Int) / r)) (W (q * (3 : Int) / r - q * (1 : Int) / r)) (q_y a b t s) (q_y a b t (W (s + V j.toNat i.toNat)))))), ((0 : Nat), OB.box [PS.int IntKind.i64 k, PS.view n (1 : Nat) nr, PS.view m (1 : Nat) (q_sr n V), PS.int IntKind.i64 a, PS.int IntKind.i64 b, PS.int IntKind.i64 c, PS.int IntKind.i64 t, PS.os (50 : Nat)]), ((14 : Nat), OB.rows (3 : Nat) (1 : Nat) (5 : Nat) (q_er q r))]))) else none))) else (some ((PV.tup [], [((0 : Nat), OB.box [PS.int IntKind.i64 k, PS.view n (1 : Nat) nr, PS.view m (1 : Nat) (q_sr n V), PS.int IntKind.i64 a, PS.int IntKind.i64 b, PS.int IntKind.i64 c, PS.int IntKind.i64 t, PS.nils])])))) := by kernel_rfl
theorem st_one2 (fl mm n m l : Nat) (k i x w a b c t j q r s : Int) (nr row : Nat → Nat → PS) (V : Nat → Nat → Int) : rounds (ySt 2 fl) (kSt 2 fl) (mm + 1) (hSt 15 m (q_sr n V) i x w s j) [(15, .rows 3 1 5 (q_er q r)), (0, mkB k n m nr (q_sr n V) a b c t (.os 1)), (1, .rows 50 6 l row)] = (if (decide (j < (↑m : Int))) = true then (chk true (decide ((0 : Int) ≤ j) && decide (j < (↑m : Int))) (chk true (decide ((0 : Int) ≤ i) && decide (i < (↑n : Int))) (if (q_dec (q_barP a b c t s (W (s + V j.toNat i.toNat)) l)) = true then (chk true (decide ((0 : Int) ≤ i) && decide (i < (↑n : Int))) (rounds (ySt 2 fl) (kSt 2 fl) mm ([((22 : Nat), none, i64 ((W (j + (1 : Int))))), ((21 : Nat), none, i64 ((↑m : Int))), ((20 : Nat), none, PV.one (PS.view m (1 : Nat) (q_sr n V))), ((9 : Nat), none, i64 ((W (s + V j.toNat i.toNat)))), ((8 : Nat), none, PV.one (PS.os (15 : Nat))), ((0 : Nat), none, PV.one (PS.ptr (0 : Nat) (0 : Nat))), ((1 : Nat), none, i64 (i)), ((2 : Nat), none, i64 (x)), ((3 : Nat), none, i64 (w))]) ([((1 : Nat), OB.rows (50 : Nat) (6 : Nat) (l + (1 : Nat)) (appRow l row (q_b1 j i (W (x + q * (1 : Int) / r)) (W (q * (3 : Int) / r - q * (1 : Int) / r)) (q_y a b t s) (q_y a b t (W (s + V j.toNat i.toNat)))))), ((0 : Nat), OB.box [PS.int IntKind.i64 k, PS.view n (1 : Nat) nr, PS.view m (1 : Nat) (q_sr n V), PS.int IntKind.i64 a, PS.int IntKind.i64 b, PS.int IntKind.i64 c, PS.int IntKind.i64 t, PS.os (1 : Nat)]), ((15 : Nat), OB.rows (3 : Nat) (1 : Nat) (5 : Nat) (q_er q r))]))) else none))) else (some ((PV.tup [], [((0 : Nat), OB.box [PS.int IntKind.i64 k, PS.view n (1 : Nat) nr, PS.view m (1 : Nat) (q_sr n V), PS.int IntKind.i64 a, PS.int IntKind.i64 b, PS.int IntKind.i64 c, PS.int IntKind.i64 t, PS.os (1 : Nat)]), ((1 : Nat), OB.rows (50 : Nat) (6 : Nat) l row)])))) := by kernel_rfl
theorem st_st1 (fl mm n m l : Nat) (k i x w a b c t j q r s : Int) (nr row : Nat → Nat → PS) (V : Nat → Nat → Int) : rounds (ySt 1 fl) (kSt 1 fl) (mm + 1) (hSt 14 m (q_sr n V) i x w s j) (sS1 k n m nr (q_sr n V) a b c t l row q r) = (if (decide (j < (↑m : Int))) = true then (chk true (decide ((0 : Int) ≤ j) && decide (j < (↑m : Int))) (chk true (decide ((0 : Int) ≤ i) && decide (i < (↑n : Int))) (if (q_dec (q_barP a b c t s (W (s + V j.toNat i.toNat)) l)) = true then (chk true (decide ((0 : Int) ≤ i) && decide (i < (↑n : Int))) (rounds (ySt 1 fl) (kSt 1 fl) mm ([((22 : Nat), none, i64 ((W (j + (1 : Int))))), ((21 : Nat), none, i64 ((↑m : Int))), ((20 : Nat), none, PV.one (PS.view m (1 : Nat) (q_sr n V))), ((9 : Nat), none, i64 ((W (s + V j.toNat i.toNat)))), ((8 : Nat), none, PV.one (PS.os (14 : Nat))), ((0 : Nat), none, PV.one (PS.ptr (0 : Nat) (0 : Nat))), ((1 : Nat), none, i64 (i)), ((2 : Nat), none, i64 (x)), ((3 : Nat), none, i64 (w))]) ([((50 : Nat), OB.rows (50 : Nat) (6 : Nat) (l + (1 : Nat)) (appRow l row (q_b1 j i (W (x + q * (1 : Int) / r)) (W (q * (3 : Int) / r - q * (1 : Int) / r)) (q_y a b t s) (q_y a b t (W (s + V j.toNat i.toNat)))))), ((0 : Nat), OB.box [PS.int IntKind.i64 k, PS.view n (1 : Nat) nr, PS.view m (1 : Nat) (q_sr n V), PS.int IntKind.i64 a, PS.int IntKind.i64 b, PS.int IntKind.i64 c, PS.int IntKind.i64 t, PS.os (50 : Nat)]), ((14 : Nat), OB.rows (3 : Nat) (1 : Nat) (5 : Nat) (q_er q r))]))) else none))) else (some ((PV.tup [], [((1 : Nat), OB.rows (50 : Nat) (6 : Nat) l row), ((0 : Nat), OB.box [PS.int IntKind.i64 k, PS.view n (1 : Nat) nr, PS.view m (1 : Nat) (q_sr n V), PS.int IntKind.i64 a, PS.int IntKind.i64 b, PS.int IntKind.i64 c, PS.int IntKind.i64 t, PS.os (1 : Nat)])])))) := by kernel_rfl
theorem st_st2 (fl mm n m l : Nat) (k i x w a b c t j q r s : Int) (nr row : Nat → Nat → PS) (V : Nat → Nat → Int) : rounds (ySt 2 fl) (kSt 2 fl) (mm + 1) (hSt 15 m (q_sr n V) i x w s j) (sS2 k n m nr (q_sr n V) a b c t l row q r) = (if (decide (j < (↑m : Int))) = true then (chk true (decide ((0 : Int) ≤ j) && decide (j < (↑m : Int))) (chk true (decide ((0 : Int) ≤ i) && decide (i < (↑n : Int))) (if (q_dec (q_barP a b c t s (W (s + V j.toNat i.toNat)) l)) = true then (chk true (decide ((0 : Int) ≤ i) && decide (i < (↑n : Int))) (rounds (ySt 2 fl) (kSt 2 fl) mm ([((22 : Nat), none, i64 ((W (j + (1 : Int))))), ((21 : Nat), none, i64 ((↑m : Int))), ((20 : Nat), none, PV.one (PS.view m (1 : Nat) (q_sr n V))), ((9 : Nat), none, i64 ((W (s + V j.toNat i.toNat)))), ((8 : Nat), none, PV.one (PS.os (15 : Nat))), ((0 : Nat), none, PV.one (PS.ptr (0 : Nat) (0 : Nat))), ((1 : Nat), none, i64 (i)), ((2 : Nat), none, i64 (x)), ((3 : Nat), none, i64 (w))]) ([((1 : Nat), OB.rows (50 : Nat) (6 : Nat) (l + (1 : Nat)) (appRow l row (q_b1 j i (W (x + q * (1 : Int) / r)) (W (q * (3 : Int) / r - q * (1 : Int) / r)) (q_y a b t s) (q_y a b t (W (s + V j.toNat i.toNat)))))), ((0 : Nat), OB.box [PS.int IntKind.i64 k, PS.view n (1 : Nat) nr, PS.view m (1 : Nat) (q_sr n V), PS.int IntKind.i64 a, PS.int IntKind.i64 b, PS.int IntKind.i64 c, PS.int IntKind.i64 t, PS.os (1 : Nat)]), ((15 : Nat), OB.rows (3 : Nat) (1 : Nat) (5 : Nat) (q_er q r))]))) else none))) else (some ((PV.tup [], [((1 : Nat), OB.rows (50 : Nat) (6 : Nat) l row), ((0 : Nat), OB.box [PS.int IntKind.i64 k, PS.view n (1 : Nat) nr, PS.view m (1 : Nat) (q_sr n V), PS.int IntKind.i64 a, PS.int IntKind.i64 b, PS.int IntKind.i64 c, PS.int IntKind.i64 t, PS.os (1 : Nat)])])))) := by kernel_rfl
def q_stP (n m : Nat) (V : Nat → Nat → Int) (a b c t : Int) (i : Nat) (x w : Int) (l : Nat) : Prop := q_sc a b c ∧ (0 ≤ t ∧ t ≤ 100000) ∧ i < n ∧ (1 ≤ m ∧ m ≤ 12) ∧ (0 ≤ x ∧ x ≤ 100000) ∧ (0 ≤ w ∧ w ≤ 100000) ∧ (l ≤ 10000 ∧ n ≤ 200) ∧ ∀ j, j ≤ m → a ≤ q_z a b + q_sum V i j ∧ q_z a b + q_sum V i j ≤ b
/-- The bars of a name, on top of each other. -/
def q_sst (V : Nat → Nat → Int) (a b t : Int) (i : Nat) (x w : Int) (j : Nat) : Nat → PS := q_b1 j i (x + w * 1 / 4) (w * 3 / 4 - w * 1 / 4) (q_y a b t (q_z a b + q_sum V i j)) (q_y a b t (q_z a b + q_sum V i (j + 1))) 0
def stI (l0 : Nat) (V : Nat → Nat → Int) (a b t : Int) (i : Nat) (x w : Int) (row0 : Nat → Nat → PS) (j : Nat) (row : Nat → Nat → PS) : Prop := (∀ i' f, i' < l0 → f < 6 → row i' f = row0 i' f) ∧ ∀ j', j' < j → ∀ f, f < 6 → row (l0 + j') f = q_sst V a b t i x w j' f
theorem stI_step {l0 : Nat} {V : Nat → Nat → Int} {a b t : Int} {i : Nat} {x w : Int} {row0 row : Nat → Nat → PS} {j : Nat} (h : stI l0 V a b t i x w row0 j row) : stI l0 V a b t i x w row0 (j + 1) (appRow (l0 + j) row (q_b1 j i (x + w * 1 / 4) (w * 3 / 4 - w * 1 / 4) (q_y a b t (q_z a b + q_sum V i j)) (q_y a b t (q_z a b + q_sum V i (j + 1))))) := by
  refine ⟨fun i' f hi hf => ?_, fun j' hj f hf => ?_⟩
  · unfold appRow; rw [if_pos (by omega)]; exact h.1 i' f hi hf
  · unfold appRow
    by_cases e : j' = j
    · subst e; rw [if_neg (by omega)]; rfl
    · rw [if_pos (by omega)]; exact h.2 j' (by omega) f hf
theorem st_loop1 (fl n m l0 : Nat) (k i x w a b c t : Int) (nr row0 : Nat → Nat → PS) (V : Nat → Nat → Int) (iN : Nat) (hi : i = iN) (h : q_stP n m V a b c t iN x w l0) : ∀ (mm j : Nat) (row : Nat → Nat → PS), j ≤ m → m < j + mm → stI l0 V a b t iN x w row0 j row →
    ∃ row', rounds (ySt 1 fl) (kSt 1 fl) mm (hSt 14 m (q_sr n V) i x w (q_z a b + q_sum V iN j) (j : Int)) (sS1 k n m nr (q_sr n V) a b c t (l0 + j) row w 4) = some (.tup [], [(1, .rows 50 6 (l0 + m) row'), (0, mkB k n m nr (q_sr n V) a b c t (.os 1))]) ∧ stI l0 V a b t iN x w row0 m row' := by
  subst hi
  obtain ⟨c1, c2, c3, c4, c5, c6, c7, c8⟩ := h
  refine loop_ex (σ := Nat → Nat → PS) (fun j _ => hSt 14 m (q_sr n V) iN x w (q_z a b + q_sum V iN j) (j : Int)) (fun j row => sS1 k n m nr (q_sr n V) a b c t (l0 + j) row w 4) (fun j row => stI l0 V a b t iN x w row0 j row) m (Z := fun z => ∃ row', z = some (PV.tup [], [(1, .rows 50 6 (l0 + m) row'), (0, mkB k n m nr (q_sr n V) a b c t (.os 1))]) ∧ stI l0 V a b t iN x w row0 m row') ?_ ?_
  · intro j row mm hj hI
    refine ⟨appRow (l0 + j) row (q_b1 j iN (x + w * 1 / 4) (w * 3 / 4 - w * 1 / 4) (q_y a b t (q_z a b + q_sum V iN j)) (q_y a b t (q_z a b + q_sum V iN (j + 1)))), stI_step hI, ?_⟩
    have g := c8 j (by omega)
    have g1 := c8 (j + 1) (by omega)
    have g0 := c1.1
    have g2 := c1.2.1
    have e : W (q_z a b + q_sum V iN j + V j iN) = q_z a b + q_sum V iN (j + 1) := by rw [W_id (by simp only [q_sum] at g1; omega) (by simp only [q_sum] at g1; omega)]; simp only [q_sum]; omega
    rw [st_st1, if_pos (by simp <;> omega), chk_true (by simp <;> omega), chk_true (by simp <;> omega), Int.toNat_natCast, Int.toNat_natCast, e, if_pos (q_dec_iff.2 ⟨⟨c1, c2, g⟩, ⟨c1, c2, g1⟩, by omega⟩), chk_true (by simp <;> omega), W_nat (by omega), W_id (n := x + w * 1 / 4) (by omega) (by omega), W_id (n := w * 3 / 4 - w * 1 / 4) (by omega) (by omega)]
    rfl
  · intro row mm hI
    refine ⟨row, ?_, hI⟩
    rw [st_st1, if_neg (by simp)]
theorem st_loop2 (fl n m l0 : Nat) (k i x w a b c t : Int) (nr row0 : Nat → Nat → PS) (V : Nat → Nat → Int) (iN : Nat) (hi : i = iN) (h : q_stP n m V a b c t iN x w l0) : ∀ (mm j : Nat) (row : Nat → Nat → PS), j ≤ m → m < j + mm → stI l0 V a b t iN x w row0 j row →
    ∃ row', rounds (ySt 2 fl) (kSt 2 fl) mm (hSt 15 m (q_sr n V) i x w (q_z a b + q_sum V iN j) (j : Int)) (sS2 k n m nr (q_sr n V) a b c t (l0 + j) row w 4) = some (.tup [], [(1, .rows 50 6 (l0 + m) row'), (0, mkB k n m nr (q_sr n V) a b c t (.os 1))]) ∧ stI l0 V a b t iN x w row0 m row' := by
  subst hi
  obtain ⟨c1, c2, c3, c4, c5, c6, c7, c8⟩ := h
  refine loop_ex (σ := Nat → Nat → PS) (fun j _ => hSt 15 m (q_sr n V) iN x w (q_z a b + q_sum V iN j) (j : Int)) (fun j row => sS2 k n m nr (q_sr n V) a b c t (l0 + j) row w 4) (fun j row => stI l0 V a b t iN x w row0 j row) m (Z := fun z => ∃ row', z = some (PV.tup [], [(1, .rows 50 6 (l0 + m) row'), (0, mkB k n m nr (q_sr n V) a b c t (.os 1))]) ∧ stI l0 V a b t iN x w row0 m row') ?_ ?_
  · intro j row mm hj hI
    refine ⟨appRow (l0 + j) row (q_b1 j iN (x + w * 1 / 4) (w * 3 / 4 - w * 1 / 4) (q_y a b t (q_z a b + q_sum V iN j)) (q_y a b t (q_z a b + q_sum V iN (j + 1)))), stI_step hI, ?_⟩
    have g := c8 j (by omega)
    have g1 := c8 (j + 1) (by omega)
    have g0 := c1.1
    have g2 := c1.2.1
    have e : W (q_z a b + q_sum V iN j + V j iN) = q_z a b + q_sum V iN (j + 1) := by rw [W_id (by simp only [q_sum] at g1; omega) (by simp only [q_sum] at g1; omega)]; simp only [q_sum]; omega
    rw [st_st2, if_pos (by simp <;> omega), chk_true (by simp <;> omega), chk_true (by simp <;> omega), Int.toNat_natCast, Int.toNat_natCast, e, if_pos (q_dec_iff.2 ⟨⟨c1, c2, g⟩, ⟨c1, c2, g1⟩, by omega⟩), chk_true (by simp <;> omega), W_nat (by omega), W_id (n := x + w * 1 / 4) (by omega) (by omega), W_id (n := w * 3 / 4 - w * 1 / 4) (by omega) (by omega)]
    rfl
  · intro row mm hI
    refine ⟨row, ?_, hI⟩
    rw [st_st2, if_neg (by simp)]
theorem st_ex1 (n m : Nat) (k i x w a b c t : Int) (nr : Nat → Nat → PS) (V : Nat → Nat → Int) (iN : Nat) (hi : i = iN) (h : q_stP n m V a b c t iN x w 0) :
    ∃ row', callF prog gl DY 20 O11 1 48 [.one (.ptr 0 0), i64 i, i64 x, i64 w] [(0, mkB k n m nr (q_sr n V) a b c t .nils)] = some (.tup [], [(1, .rows 50 6 (0 + m) row'), (0, mkB k n m nr (q_sr n V) a b c t (.os 1))]) ∧ stI 0 V a b t iN x w (fun _ _ => .nilp) m row' := by
  have h' := h
  obtain ⟨c1, c2, c3, c4, c5, c6, c7, c8⟩ := h
  rw [st_pre1, if_pos (q_dec_iff.2 ⟨by omega, by omega⟩), bmax, bmin]
  refine (congrArg (fun z => ∃ row', z = some (PV.tup [], [(1, OB.rows 50 6 (0 + m) row'), (0, mkB k n m nr (q_sr n V) a b c t (.os 1))]) ∧ stI 0 V a b t iN x w (fun _ _ => .nilp) m row') ?_).mpr (st_loop1 20 n m 0 k i x w a b c t nr (fun _ _ => .nilp) V iN hi h' 19 1 (appRow 0 (fun _ _ => .nilp) (q_b1 0 iN (x + w * 1 / 4) (w * 3 / 4 - w * 1 / 4) (q_y a b t (q_z a b + q_sum V iN 0)) (q_y a b t (q_z a b + q_sum V iN (0 + 1))))) (by omega) (by omega) (stI_step (j := 0) ⟨fun _ _ _ _ => rfl, fun _ h => absurd h (by omega)⟩))
  subst hi
  have g := c8 0 (by omega)
  have g1 := c8 (0 + 1) (by omega)
  have g0 := c1.1
  have g2 := c1.2.1
  have ez : q_z a b + q_sum V iN 0 = min (max 0 a) b := by simp [q_sum, q_z]
  have e : W (min (max 0 a) b + V 0 iN) = q_z a b + q_sum V iN (0 + 1) := by
    simp only [q_sum, q_z] at g1 ⊢
    rw [W_id (by omega) (by omega)]; omega
  refine (st_one1 20 19 n m k iN x w a b c t (0 : Nat) w 4 (min (max 0 a) b) nr V).trans ?_
  rw [if_pos (by simp <;> omega), chk_true (by simp <;> omega), chk_true (by simp <;> omega), Int.toNat_natCast, Int.toNat_natCast, e, ← ez, if_pos (q_dec_iff.2 ⟨⟨c1, c2, g⟩, ⟨c1, c2, g1⟩, by omega⟩), chk_true (by simp <;> omega), W_nat (by omega), W_id (n := x + w * 1 / 4) (by omega) (by omega), W_id (n := w * 3 / 4 - w * 1 / 4) (by omega) (by omega)]
  rfl
theorem st_ex2 (n m l : Nat) (k i x w a b c t : Int) (nr row : Nat → Nat → PS) (V : Nat → Nat → Int) (iN : Nat) (hi : i = iN) (h : q_stP n m V a b c t iN x w l) :
    ∃ row', callF prog gl DY 20 O11 2 48 [.one (.ptr 0 0), i64 i, i64 x, i64 w] [(0, mkB k n m nr (q_sr n V) a b c t (.os 1)), (1, .rows 50 6 l row)] = some (.tup [], [(1, .rows 50 6 (l + m) row'), (0, mkB k n m nr (q_sr n V) a b c t (.os 1))]) ∧ stI l V a b t iN x w row m row' := by
  have h' := h
  obtain ⟨c1, c2, c3, c4, c5, c6, c7, c8⟩ := h
  rw [st_pre2, if_pos (q_dec_iff.2 ⟨by omega, by omega⟩), bmax, bmin]
  refine (congrArg (fun z => ∃ row', z = some (PV.tup [], [(1, OB.rows 50 6 (l + m) row'), (0, mkB k n m nr (q_sr n V) a b c t (.os 1))]) ∧ stI l V a b t iN x w row m row') ?_).mpr (st_loop2 20 n m l k i x w a b c t nr row V iN hi h' 19 1 (appRow l row (q_b1 0 iN (x + w * 1 / 4) (w * 3 / 4 - w * 1 / 4) (q_y a b t (q_z a b + q_sum V iN 0)) (q_y a b t (q_z a b + q_sum V iN (0 + 1))))) (by omega) (by omega) (stI_step (j := 0) ⟨fun _ _ _ _ => rfl, fun _ h => absurd h (by omega)⟩))
  subst hi
  have g := c8 0 (by omega)
  have g1 := c8 (0 + 1) (by omega)
  have g0 := c1.1
  have g2 := c1.2.1
  have ez : q_z a b + q_sum V iN 0 = min (max 0 a) b := by simp [q_sum, q_z]
  have e : W (min (max 0 a) b + V 0 iN) = q_z a b + q_sum V iN (0 + 1) := by
    simp only [q_sum, q_z] at g1 ⊢
    rw [W_id (by omega) (by omega)]; omega
  refine (st_one2 20 19 n m l k iN x w a b c t (0 : Nat) w 4 (min (max 0 a) b) nr row V).trans ?_
  rw [if_pos (by simp <;> omega), chk_true (by simp <;> omega), chk_true (by simp <;> omega), Int.toNat_natCast, Int.toNat_natCast, e, ← ez, if_pos (q_dec_iff.2 ⟨⟨c1, c2, g⟩, ⟨c1, c2, g1⟩, by omega⟩), chk_true (by simp <;> omega), W_nat (by omega), W_id (n := x + w * 1 / 4) (by omega) (by omega), W_id (n := w * 3 / 4 - w * 1 / 4) (by omega) (by omega)]
  rfl
end Go.Proofs.Ytfemkfodakfcmaa.Sh
