import Derived.Test.YtobfnncpjkeloaaMsA
namespace Go.Proofs.Ytobfnncpjkeloaa.Sh
open Go Go.RowKit Go.Proofs.Ytobfnncpjkeloaa.Ev Go.Proofs.Try
set_option maxRecDepth 1000000
set_option linter.unusedVariables false
/-! rows of shapes: ten whole numbers, two texts -/
def rwj (g : Nat → Nat → Int) (sx : Nat → Nat → ByteArray) (jx : Nat → Nat → PS) : Nat → Nat → PS := fun i j => if j < 10 then .int .i64 (g i j) else if j < 12 then .str (sx i j) else jx i j
def q_gi : PS → Int
  | .int _ v => v
  | _ => 0
def q_gs : PS → ByteArray
  | .str s => s
  | _ => ByteArray.empty
def q_isRw (row : Nat → Nat → PS) : Prop := ∃ g sx jx, row = rwj g sx jx
/-- The numbers and texts of a row, as far as it goes. -/
def q_nu (n : Nat) (row : Nat → Nat → PS) : Nat → Nat → Int := fun i j => if i < n ∧ j < 10 then q_gi (row i j) else 0
def q_tx2 (n : Nat) (row : Nat → Nat → PS) : Nat → Nat → ByteArray := fun i j => if i < n ∧ (j = 10 ∨ j = 11) then q_gs (row i j) else ByteArray.empty
def cutG (n : Nat) (g : Nat → Nat → Int) : Nat → Nat → Int := fun i j => if i < n ∧ j < 10 then g i j else 0
def cutS (n : Nat) (s : Nat → Nat → ByteArray) : Nat → Nat → ByteArray := fun i j => if i < n ∧ (j = 10 ∨ j = 11) then s i j else ByteArray.empty
theorem nu_rwj {n : Nat} {g : Nat → Nat → Int} {sx : Nat → Nat → ByteArray} {jx : Nat → Nat → PS} : q_nu n (rwj g sx jx) = cutG n g := by
  funext i j
  unfold q_nu cutG rwj
  by_cases h : i < n ∧ j < 10
  · rw [if_pos h, if_pos h, if_pos h.2]; rfl
  · rw [if_neg h, if_neg h]
theorem tx_rwj {n : Nat} {g : Nat → Nat → Int} {sx : Nat → Nat → ByteArray} {jx : Nat → Nat → PS} : q_tx2 n (rwj g sx jx) = cutS n sx := by
  funext i j
  unfold q_tx2 cutS rwj
  by_cases h : i < n ∧ (j = 10 ∨ j = 11)
  · rw [if_pos h, if_pos h, if_neg (by omega), if_pos (by omega)]; rfl
  · rw [if_neg h, if_neg h]
theorem cutG_in {n i j : Nat} {g : Nat → Nat → Int} (hi : i < n) (hj : j < 10) : cutG n g i j = g i j := if_pos ⟨hi, hj⟩
def q_rw (g : Nat → Nat → Int) (s : Nat → Nat → ByteArray) : Nat → Nat → PS := rwj g s (fun _ _ => .nilp)
abbrev cel (c : Nat → Int) (s1 s2 : ByteArray) : List PS := [.int .i64 (c 0), .int .i64 (c 1), .int .i64 (c 2), .int .i64 (c 3), .int .i64 (c 4), .int .i64 (c 5), .int .i64 (c 6), .int .i64 (c 7), .int .i64 (c 8), .int .i64 (c 9), .str s1, .str s2]
def appG (n : Nat) (g : Nat → Nat → Int) (c : Nat → Int) : Nat → Nat → Int := fun i j => if i < n then g i j else c j
def appS (n : Nat) (s : Nat → Nat → ByteArray) (s1 s2 : ByteArray) : Nat → Nat → ByteArray := fun i j => if i < n then s i j else if j = 10 then s1 else s2
theorem lit_rw (c : Nat → Int) (s1 s2 : ByteArray) (i j : Nat) : litRow 12 (cel c s1 s2) i j = if j < 10 then .int .i64 (c j) else if j < 12 then .str (if j = 10 then s1 else s2) else .nilp := by
  have e : litRow 12 (cel c s1 s2) i j = (cel c s1 s2).getD j .nilp := rfl
  rw [e]
  by_cases h : j < 12
  · rcases (by omega : j = 0 ∨ j = 1 ∨ j = 2 ∨ j = 3 ∨ j = 4 ∨ j = 5 ∨ j = 6 ∨ j = 7 ∨ j = 8 ∨ j = 9 ∨ j = 10 ∨ j = 11) with rfl | rfl | rfl | rfl | rfl | rfl | rfl | rfl | rfl | rfl | rfl | rfl <;> rfl
  · rw [if_neg (by omega), if_neg h, List.getD_eq_getElem?_getD, List.getElem?_eq_none (by simp; omega)]; rfl
theorem app_rw (n : Nat) (g : Nat → Nat → Int) (sx : Nat → Nat → ByteArray) (jx : Nat → Nat → PS) (c : Nat → Int) (s1 s2 : ByteArray) : ∃ jx', appRow n (rwj g sx jx) (litRow 12 (cel c s1 s2)) = rwj (appG n g c) (appS n sx s1 s2) jx' := by
  refine ⟨fun i j => if i < n then jx i j else .nilp, ?_⟩
  funext i j
  rw [appRow_eq, lit_rw]
  unfold rwj appG appS
  by_cases h : i < n
  · simp only [if_pos h]
  · simp only [if_neg h]
theorem app_rw0 (R : Nat → Nat → PS) (c : Nat → Int) (s1 s2 : ByteArray) : ∃ jx', appRow 0 R (litRow 12 (cel c s1 s2)) = rwj (fun _ j => c j) (fun _ j => if j = 10 then s1 else s2) jx' := by
  refine ⟨fun i j => .nilp, ?_⟩
  funext i j
  rw [appRow_eq, lit_rw, if_neg (by omega)]
  rfl
theorem put_rw (g : Nat → Nat → Int) (sx : Nat → Nat → ByteArray) (jx : Nat → Nat → PS) (k j : Nat) (v : Int) (hj : j < 10) : putRow (rwj g sx jx) k j [.int .i64 v] = rwj (putB g k j v) sx jx := by
  funext i1 j1
  rw [putRow_eq]
  unfold rwj putB
  by_cases h1 : i1 = k
  · by_cases h2 : j1 = j
    · subst h1 h2
      simp [hj]
    · have : ¬ (j ≤ j1 ∧ j1 < j + 1) := by omega
      simp [h1, h2]
      intro a b; omega
  · simp [h1]
theorem rw_ag {n : Nat} {g g' : Nat → Nat → Int} {sx sx' : Nat → Nat → ByteArray} {jx : Nat → Nat → PS} (h : ∀ i j, i < n → j < 10 → g i j = g' i j) (h2 : ∀ i j, i < n → j = 10 ∨ j = 11 → sx i j = sx' i j) : ∀ i j, i < n → j < 12 → agS (rwj g sx jx i j) (q_rw g' sx' i j) := fun i j hi hj => .of_eq (by
  unfold q_rw rwj
  by_cases h1 : j < 10
  · rw [if_pos h1, if_pos h1, h i j hi h1]
  · rw [if_neg h1, if_neg h1, if_pos hj, if_pos hj, h2 i j hi (by omega)])
/-! find -/
theorem fc_raw (c : Nat → Int) (s1 s2 : ByteArray) (v : Int) : callF prog gl noD 1 O3 1 70 [.agg (cel c s1 s2), .one (.ptr 0 0)] [(0, .box [.int .i64 v])] = (some ((PV.one (PS.bool (c (0 : Nat) == v)), [((0 : Nat), OB.box [PS.int IntKind.i64 v])]))) := by kernel_rfl
end Go.Proofs.Ytobfnncpjkeloaa.Sh
