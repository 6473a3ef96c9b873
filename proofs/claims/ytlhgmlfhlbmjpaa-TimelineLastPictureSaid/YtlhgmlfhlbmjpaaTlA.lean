import Derived.Test.YtlhgmlfhlbmjpaaCmA
namespace Go.Proofs.Ytlhgmlfhlbmjpaa.Sh
open Go Go.RowKit Go.Proofs.Ytlhgmlfhlbmjpaa.Ev Go.Proofs.Try
set_option maxRecDepth 100000
set_option linter.unusedVariables false
/-! rows of whole numbers -/
def q_ci : PS → Int
  | .int _ x => x
  | _ => 0
def q_isJ (e : Nat) (row : Nat → Nat → PS) : Prop := ∃ B J, row = rj e B J
/-- The numbers of a row, as far as it goes. -/
def q_num (n e : Nat) (row : Nat → Nat → PS) : Nat → Nat → Int := fun i j => if i < n ∧ j < e then q_ci (row i j) else 0
def cut (n e : Nat) (B : Nat → Nat → Int) : Nat → Nat → Int := fun i j => if i < n ∧ j < e then B i j else 0
theorem num_rj {n e : Nat} {B : Nat → Nat → Int} {J : Nat → Nat → PS} : q_num n e (rj e B J) = cut n e B := by
  funext i j
  unfold q_num cut rj
  by_cases h : i < n ∧ j < e
  · rw [if_pos h, if_pos h, if_pos h.2]; rfl
  · rw [if_neg h, if_neg h]
theorem cut_in {n e : Nat} {B : Nat → Nat → Int} {i j : Nat} (hi : i < n) (hj : j < e) : cut n e B i j = B i j := if_pos ⟨hi, hj⟩
def q_row (e : Nat) (B : Nat → Nat → Int) : Nat → Nat → PS := rj e B (fun _ _ => .nilp)
theorem rj_ag {n e : Nat} {B B' : Nat → Nat → Int} {J : Nat → Nat → PS} (h : ∀ i j, i < n → j < e → B i j = B' i j) : ∀ i j, i < n → j < e → agS (rj e B J i j) (q_row e B' i j) := fun i j hi hj => .of_eq (by unfold q_row; rw [rj_in hj, rj_in hj, h i j hi hj])
/-! effects -/
abbrev pEf : List Bool := [true, true, false, true, false]
noncomputable abbrev yEf (fl : Nat) : En → Heap → (Exit → En → Heap → Option (PV × Heap)) → Option (PV × Heap) := bodyAt prog gl O1 noD f10 1 0 fl pEf
noncomputable abbrev kEf (fl : Nat) := kAt prog gl O1 noD f10 1 0 fl pEf
abbrev hEf (n : Nat) (row : Nat → Nat → PS) (s : PS) (i : Int) : En := [(4, none, i64 i), (3, none, .one s), (2, none, .one .nils), (0, none, .one (.view n 7 row))]
theorem ef_pre (fl n : Nat) (row : Nat → Nat → PS) : callF prog gl noD fl O1 0 10 [.one (.view n 7 row)] [] = (rounds (yEf fl) (kEf fl) fl ([((4 : Nat), none, i64 ((0 : Int))), ((3 : Nat), none, PV.one PS.nils), ((2 : Nat), none, PV.one PS.nils), ((0 : Nat), none, PV.one (PS.view n (7 : Nat) row))]) ([])) := by kernel_rfl
theorem ef_one (fl mm n : Nat) (g : Nat → Nat → Int) (J : Nat → Nat → PS) (i : Int) : rounds (yEf fl) (kEf fl) (mm + 1) (hEf n (rj 7 g J) .nils i) [] = (if (bif decide (i < (↑n : Int)) then decide (i < (12 : Int)) else false) = true then (chk true (decide ((0 : Int) ≤ i) && decide (i < (↑n : Int))) (if (q_within (g i.toNat (1 : Nat)) (0 : Int) (2 : Int) == (2 : Int)) = true then (rounds (yEf fl) (kEf fl) mm ([((4 : Nat), none, i64 ((W (i + (1 : Int))))), ((3 : Nat), none, PV.one (PS.os (51 : Nat))), ((2 : Nat), none, PV.one PS.nils), ((0 : Nat), none, PV.one (PS.view n (7 : Nat) (rj (7 : Nat) g J)))]) ([((51 : Nat), OB.rows (38 : Nat) (7 : Nat) (1 : Nat) (appRow (0 : Nat) (fun _ _ ↦ PS.nilp) (litRow (7 : Nat) [PS.int IntKind.i64 (q_within (g i.toNat (0 : Nat)) (1 : Int) (4 : Int)), PS.int IntKind.i64 (q_within (g i.toNat (1 : Nat)) (0 : Int) (2 : Int)), PS.int IntKind.i64 (q_within (g i.toNat (2 : Nat)) (0 : Int) (2 : Int)), PS.int IntKind.i64 (q_within (g i.toNat (3 : Nat)) (0 : Int) (500 : Int)), PS.int IntKind.i64 (q_within (g i.toNat (4 : Nat)) (0 : Int) (500 : Int)), PS.int IntKind.i64 (q_within (g i.toNat (5 : Nat)) (-500 : Int) (500 : Int)), PS.int IntKind.i64 (q_within (g i.toNat (6 : Nat)) (-500 : Int) (500 : Int))])))])) else (rounds (yEf fl) (kEf fl) mm ([((4 : Nat), none, i64 ((W (i + (1 : Int))))), ((3 : Nat), none, PV.one (PS.os (51 : Nat))), ((2 : Nat), none, PV.one PS.nils), ((0 : Nat), none, PV.one (PS.view n (7 : Nat) (rj (7 : Nat) g J)))]) ([((51 : Nat), OB.rows (38 : Nat) (7 : Nat) (1 : Nat) (appRow (0 : Nat) (fun _ _ ↦ PS.nilp) (litRow (7 : Nat) [PS.int IntKind.i64 (q_within (g i.toNat (0 : Nat)) (1 : Int) (4 : Int)), PS.int IntKind.i64 (q_within (g i.toNat (1 : Nat)) (0 : Int) (2 : Int)), PS.int IntKind.i64 (q_within (g i.toNat (2 : Nat)) (0 : Int) (2 : Int)), PS.int IntKind.i64 (q_within (g i.toNat (3 : Nat)) (0 : Int) (500 : Int)), PS.int IntKind.i64 (q_within (g i.toNat (4 : Nat)) (0 : Int) (500 : Int)), PS.int IntKind.i64 (0 : Int), PS.int IntKind.i64 (0 : Int)])))])))) else (some ((PV.one PS.nils, [])))) := by kernel_rfl
theorem ef_st (fl mm n l : Nat) (g : Nat → Nat → Int) (J row : Nat → Nat → PS) (i : Int) : rounds (yEf fl) (kEf fl) (mm + 1) (hEf n (rj 7 g J) (.os 51) i) [(51, .rows 38 7 l row)] = (if (bif decide (i < (↑n : Int)) then decide (i < (12 : Int)) else false) = true then (chk true (decide ((0 : Int) ≤ i) && decide (i < (↑n : Int))) (if (q_within (g i.toNat (1 : Nat)) (0 : Int) (2 : Int) == (2 : Int)) = true then (if (true && (decide (l + (1 : Nat) ≤ (9223372036854775807 : Nat)) && decide ((l + (1 : Nat)) * (56 : Nat) ≤ (140737488355328 : Nat)))) = true then (rounds (yEf fl) (kEf fl) mm ([((4 : Nat), none, i64 ((W (i + (1 : Int))))), ((3 : Nat), none, PV.one (PS.os (51 : Nat))), ((2 : Nat), none, PV.one PS.nils), ((0 : Nat), none, PV.one (PS.view n (7 : Nat) (rj (7 : Nat) g J)))]) ([((51 : Nat), OB.rows (38 : Nat) (7 : Nat) (l + (1 : Nat)) (appRow l row (litRow (7 : Nat) [PS.int IntKind.i64 (q_within (g i.toNat (0 : Nat)) (1 : Int) (4 : Int)), PS.int IntKind.i64 (q_within (g i.toNat (1 : Nat)) (0 : Int) (2 : Int)), PS.int IntKind.i64 (q_within (g i.toNat (2 : Nat)) (0 : Int) (2 : Int)), PS.int IntKind.i64 (q_within (g i.toNat (3 : Nat)) (0 : Int) (500 : Int)), PS.int IntKind.i64 (q_within (g i.toNat (4 : Nat)) (0 : Int) (500 : Int)), PS.int IntKind.i64 (q_within (g i.toNat (5 : Nat)) (-500 : Int) (500 : Int)), PS.int IntKind.i64 (q_within (g i.toNat (6 : Nat)) (-500 : Int) (500 : Int))])))])) else none) else (if (true && (decide (l + (1 : Nat) ≤ (9223372036854775807 : Nat)) && decide ((l + (1 : Nat)) * (56 : Nat) ≤ (140737488355328 : Nat)))) = true then (rounds (yEf fl) (kEf fl) mm ([((4 : Nat), none, i64 ((W (i + (1 : Int))))), ((3 : Nat), none, PV.one (PS.os (51 : Nat))), ((2 : Nat), none, PV.one PS.nils), ((0 : Nat), none, PV.one (PS.view n (7 : Nat) (rj (7 : Nat) g J)))]) ([((51 : Nat), OB.rows (38 : Nat) (7 : Nat) (l + (1 : Nat)) (appRow l row (litRow (7 : Nat) [PS.int IntKind.i64 (q_within (g i.toNat (0 : Nat)) (1 : Int) (4 : Int)), PS.int IntKind.i64 (q_within (g i.toNat (1 : Nat)) (0 : Int) (2 : Int)), PS.int IntKind.i64 (q_within (g i.toNat (2 : Nat)) (0 : Int) (2 : Int)), PS.int IntKind.i64 (q_within (g i.toNat (3 : Nat)) (0 : Int) (500 : Int)), PS.int IntKind.i64 (q_within (g i.toNat (4 : Nat)) (0 : Int) (500 : Int)), PS.int IntKind.i64 (0 : Int), PS.int IntKind.i64 (0 : Int)])))])) else none))) else (some ((PV.one (PS.os (0 : Nat)), [((0 : Nat), OB.rows (38 : Nat) (7 : Nat) l row)])))) := by kernel_rfl
/-- An effect, made valid. -/
def q_el (g : Nat → Nat → Int) (i : Nat) : List Int := [q_within (g i 0) 1 4, q_within (g i 1) 0 2, q_within (g i 2) 0 2, q_within (g i 3) 0 500, q_within (g i 4) 0 500, if q_within (g i 1) 0 2 = 2 then q_within (g i 5) (-500) 500 else 0, if q_within (g i 1) 0 2 = 2 then q_within (g i 6) (-500) 500 else 0]
def q_eff (g : Nat → Nat → Int) : Nat → Nat → Int := fun i j => (q_el g i).getD j 0
def RowIs (e n : Nat) (B : Nat → Nat → Int) (row : Nat → Nat → PS) : Prop := ∃ B' J, row = rj e B' J ∧ ∀ i j, i < n → j < e → B' i j = B i j
theorem rowIs_app {e n : Nat} {B : Nat → Nat → Int} {row : Nat → Nat → PS} (h : RowIs e n B row) {l : List Int} (hl : l.length = e) (hb : ∀ j, j < e → l.getD j 0 = B n j) : RowIs e (n + 1) B (appRow n row (litRow e (l.map (PS.int .i64)))) := by
  obtain ⟨B', J, rfl, h1⟩ := h
  obtain ⟨J', e1⟩ := app_rj e n B' J l hl
  refine ⟨_, J', e1, fun i j hi hj => ?_⟩
  unfold appB
  by_cases c : i < n
  · rw [if_pos c]; exact h1 i j c hj
  · rw [if_neg c]
    obtain rfl : i = n := by omega
    exact hb j hj
theorem rowIs_first {e : Nat} {B : Nat → Nat → Int} {R : Nat → Nat → PS} {l : List Int} (hl : l.length = e) (hb : ∀ j, j < e → l.getD j 0 = B 0 j) : RowIs e 1 B (appRow 0 R (litRow e (l.map (PS.int .i64)))) := by
  obtain ⟨J', e1⟩ := app_rj e 0 (fun _ _ => 0) (fun _ _ => .nilp) l hl
  have e2 : appRow 0 R (litRow e (l.map (PS.int .i64))) = appRow 0 (rj e (fun _ _ => 0) (fun _ _ => .nilp)) (litRow e (l.map (PS.int .i64))) := by
    funext i j; rw [appRow_eq, appRow_eq, if_neg (by omega), if_neg (by omega)]
  refine ⟨_, J', e2.trans e1, fun i j hi hj => ?_⟩
  unfold appB
  obtain rfl : i = 0 := by omega
  rw [if_neg (by omega)]
  exact hb j hj
theorem rowIs_ag {e n : Nat} {B : Nat → Nat → Int} {row : Nat → Nat → PS} (h : RowIs e n B row) : ∀ i j, i < n → j < e → agS (row i j) (q_row e B i j) := by
  obtain ⟨B', J, rfl, h1⟩ := h
  exact rj_ag h1
theorem ef_loop (fl n : Nat) (g : Nat → Nat → Int) (J : Nat → Nat → PS) : ∀ (m i : Nat) (row : Nat → Nat → PS), i ≤ min n 12 → min n 12 < i + m → (RowIs 7 i (q_eff g) row ∧ 1 ≤ i) →
    ∃ row', rounds (yEf fl) (kEf fl) m (hEf n (rj 7 g J) (.os 51) (i : Nat)) [(51, .rows 38 7 i row)] = some (.one (.os 0), [(0, .rows 38 7 (min n 12) row')]) ∧ RowIs 7 (min n 12) (q_eff g) row' := by
  refine loop_ex (body := yEf fl) (K := kEf fl) (σ := Nat → Nat → PS) (fun i _ => hEf n (rj 7 g J) (.os 51) ((i : Nat) : Int)) (fun i row => [(51, .rows 38 7 i row)]) (fun i row => RowIs 7 i (q_eff g) row ∧ 1 ≤ i) (min n 12) (Z := fun x => ∃ row', x = some (PV.one (.os 0), [(0, OB.rows 38 7 (min n 12) row')]) ∧ RowIs 7 (min n 12) (q_eff g) row') ?_ ?_
  · intro i row m hi hI
    refine ⟨appRow i row (litRow 7 ((q_el g i).map (PS.int .i64))), ⟨rowIs_app hI.1 rfl (fun j _ => rfl), by omega⟩, ?_⟩
    rw [ef_st, if_pos (by simp <;> omega), chk_true (by simp <;> omega), Int.toNat_natCast, W_nat (by omega)]
    by_cases h : q_within (g i 1) 0 2 = 2
    · simp only [q_el, if_pos h]
      rw [if_pos (by simpa using h), if_pos (by simp <;> omega)]; rfl
    · simp only [q_el, if_neg h]
      rw [if_neg (by simpa using h), if_pos (by simp <;> omega)]; rfl
  · intro row m hI
    refine ⟨row, ?_, hI.1⟩
    rw [ef_st, if_neg (by simp <;> omega)]
theorem ef_ex (n : Nat) (hn : 0 < n) (g : Nat → Nat → Int) (J : Nat → Nat → PS) : ∃ row', callF prog gl noD 13 O1 0 10 [.one (.view n 7 (rj 7 g J))] [] = some (.one (.os 0), [(0, .rows 38 7 (min n 12) row')]) ∧ RowIs 7 (min n 12) (q_eff g) row' := by
  rw [ef_pre]
  refine (congrArg (fun z => ∃ row', z = some (PV.one (.os 0), [(0, OB.rows 38 7 (min n 12) row')]) ∧ RowIs 7 (min n 12) (q_eff g) row') ?_).mpr (ef_loop 13 n g J 12 1 (appRow 0 (fun _ _ => .nilp) (litRow 7 ((q_el g 0).map (PS.int .i64)))) (by omega) (by omega) ⟨rowIs_first rfl (fun j _ => rfl), by omega⟩)
  refine (ef_one 13 12 n g J (0 : Nat)).trans ?_
  rw [if_pos (by simp <;> omega), chk_true (by simp <;> omega), Int.toNat_natCast, W_nat (by omega)]
  unfold q_el
  split
  · rename_i h
    rw [if_pos (by simpa using h), if_pos (by simpa using h)]; rfl
  · rename_i h
    rw [if_neg (by simpa using h), if_neg (by simpa using h)]; rfl
noncomputable def aEf : Nat → List PV → Heap → Option (Bool × PV × Heap)
  | 0, [.one (.view n 7 row)], [] => some (q_dec (q_isJ 7 row ∧ 0 < n), .one (.os 0), [(0, .rows 38 7 (min n 12) (q_row 7 (q_eff (q_num n 7 row))))])
  | _, _, _ => none
theorem eff_cut {n : Nat} {g : Nat → Nat → Int} {i j : Nat} (hi : i < n) : q_eff (cut n 7 g) i j = q_eff g i j := by
  unfold q_eff q_el
  simp only [cut_in hi (show 0 < 7 by omega), cut_in hi (show 1 < 7 by omega), cut_in hi (show 2 < 7 by omega), cut_in hi (show 3 < 7 by omega), cut_in hi (show 4 < 7 by omega), cut_in hi (show 5 < 7 by omega), cut_in hi (show 6 < 7 by omega)]
noncomputable def O2 : Orac := addM 10 aEf O1
theorem sO2 : Sound prog gl O2 := add_ag (D := noD) sO1 sO1 mo (fun nb vs H v H' h => by
  unfold aEf at h
  split at h
  · rename_i n row
    obtain ⟨h1, h2, h3⟩ : q_dec (q_isJ 7 row ∧ 0 < n) = true ∧ .one (.os 0) = v ∧ [(0, OB.rows 38 7 (min n 12) (q_row 7 (q_eff (q_num n 7 row))))] = H' := by simpa using h
    subst h2 h3
    obtain ⟨⟨g, J, rfl⟩, hn⟩ := q_dec_iff.1 h1
    obtain ⟨row', e1, B', J', rfl, e2⟩ := ef_ex n hn g J
    refine ⟨13, _, _, e1, agV_refl _, .inr ⟨0, _, 7, _, _, _, [], rfl, rfl, rj_ag (fun i j hi hj => ?_), fun p hp => nomatch hp⟩⟩
    rw [num_rj, eff_cut (by omega)]
    exact e2 i j hi hj
  · cases h)
end Go.Proofs.Ytlhgmlfhlbmjpaa.Sh
