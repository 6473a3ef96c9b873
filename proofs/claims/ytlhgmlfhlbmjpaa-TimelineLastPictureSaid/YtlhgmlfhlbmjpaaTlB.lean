import Derived.Test.YtlhgmlfhlbmjpaaTlA
namespace Go.Proofs.Ytlhgmlfhlbmjpaa.Sh
open Go Go.RowKit Go.Proofs.Ytlhgmlfhlbmjpaa.Ev Go.Proofs.Try
set_option maxRecDepth 100000
set_option linter.unusedVariables false
/-- Valid effects. -/
def q_effP (n : Nat) (g : Nat → Nat → Int) : Prop := n ≤ 12 ∧ ∀ i, i < n → (1 ≤ g i 0 ∧ g i 0 ≤ 4) ∧ (0 ≤ g i 1 ∧ g i 1 ≤ 2) ∧ (0 ≤ g i 2 ∧ g i 2 ≤ 2) ∧ (0 ≤ g i 3 ∧ g i 3 ≤ 500) ∧ (0 ≤ g i 4 ∧ g i 4 ≤ 500) ∧ (-500 ≤ g i 5 ∧ g i 5 ≤ 500) ∧ (-500 ≤ g i 6 ∧ g i 6 ≤ 500) ∧ (g i 1 ≠ 2 → g i 5 = 0 ∧ g i 6 = 0)
theorem eff_P {n : Nat} (hn : n ≤ 12) (g : Nat → Nat → Int) : q_effP n (q_eff g) := by
  refine ⟨hn, fun i _ => ?_⟩
  have a0 := within_in (g i 0) 1 4 (by omega)
  have a1 := within_in (g i 1) 0 2 (by omega)
  have a2 := within_in (g i 2) 0 2 (by omega)
  have a3 := within_in (g i 3) 0 500 (by omega)
  have a4 := within_in (g i 4) 0 500 (by omega)
  have a5 := within_in (g i 5) (-500) 500 (by omega)
  have a6 := within_in (g i 6) (-500) 500 (by omega)
  refine ⟨a0, a1, a2, a3, a4, ?_, ?_, fun h => ?_⟩
  · show -500 ≤ (if q_within (g i 1) 0 2 = 2 then q_within (g i 5) (-500) 500 else 0) ∧ (if q_within (g i 1) 0 2 = 2 then q_within (g i 5) (-500) 500 else 0) ≤ 500
    split <;> omega
  · show -500 ≤ (if q_within (g i 1) 0 2 = 2 then q_within (g i 6) (-500) 500 else 0) ∧ (if q_within (g i 1) 0 2 = 2 then q_within (g i 6) (-500) 500 else 0) ≤ 500
    split <;> omega
  · have h : q_within (g i 1) 0 2 ≠ 2 := h
    exact ⟨if_neg h, if_neg h⟩
theorem effP_cut {n m : Nat} {g : Nat → Nat → Int} (h : q_effP n (cut m 7 g)) (hm : n ≤ m) : q_effP n g := by
  refine ⟨h.1, fun i hi => ?_⟩
  have := h.2 i hi
  simpa only [cut_in (show i < m by omega) (show 0 < 7 by omega), cut_in (show i < m by omega) (show 1 < 7 by omega), cut_in (show i < m by omega) (show 2 < 7 by omega), cut_in (show i < m by omega) (show 3 < 7 by omega), cut_in (show i < m by omega) (show 4 < 7 by omega), cut_in (show i < m by omega) (show 5 < 7 by omega), cut_in (show i < m by omega) (show 6 < 7 by omega)] using this
/-! Check -/
abbrev pTk : List Bool := [true, true, false, true, false]
abbrev hTk (n : Nat) (row : Nat → Nat → PS) (i : Int) : En := [(10, none, i64 i), (9, none, i64 n), (8, none, .one (.view n 7 row)), (2, none, i64 0), (0, none, .one (.view n 7 row))]
noncomputable abbrev yTk (fl : Nat) : En → Heap → (Exit → En → Heap → Option (PV × Heap)) → Option (PV × Heap) := bodyAt prog gl O2 noD f28 1 0 fl pTk
noncomputable abbrev kTk (fl : Nat) := kAt prog gl O2 noD f28 1 0 fl pTk
theorem tk_pre (fl n : Nat) (row : Nat → Nat → PS) : callF prog gl noD fl O2 0 28 [.one (.view n 7 row)] [] = (if (decide ((↑n : Int) > (200 : Int))) = true then (some ((i64 ((3 : Int)), []))) else (rounds (yTk fl) (kTk fl) fl ([((10 : Nat), none, i64 ((0 : Int))), ((9 : Nat), none, i64 ((↑n : Int))), ((8 : Nat), none, PV.one (PS.view n (7 : Nat) row)), ((2 : Nat), none, i64 ((0 : Int))), ((0 : Nat), none, PV.one (PS.view n (7 : Nat) row))]) ([]))) := by kernel_rfl
theorem tk_st (fl mm n : Nat) (g : Nat → Nat → Int) (J : Nat → Nat → PS) (i : Int) : rounds (yTk fl) (kTk fl) (mm + 1) (hTk n (rj 7 g J) i) [] = (if (decide (i < (↑n : Int))) = true then (chk true (decide ((0 : Int) ≤ i) && decide (i < (↑n : Int))) (if (bif bif bif decide (g i.toNat (1 : Nat) < (0 : Int)) then true else decide (g i.toNat (1 : Nat) > (2 : Int)) then true else decide (g i.toNat (2 : Nat) < (0 : Int)) then true else decide (g i.toNat (2 : Nat) > (2 : Int))) = true then (some ((i64 ((8 : Int)), []))) else (if (bif bif bif bif bif bif bif bif bif decide (g i.toNat (0 : Nat) < (1 : Int)) then true else decide (g i.toNat (0 : Nat) > (1073741824 : Int)) then true else decide (g i.toNat (3 : Nat) < (0 : Int)) then true else decide (g i.toNat (3 : Nat) > (10000000 : Int)) then true else decide (g i.toNat (4 : Nat) < (0 : Int)) then true else decide (g i.toNat (4 : Nat) > (10000000 : Int)) then true else decide (g i.toNat (5 : Nat) < (-1048576 : Int)) then true else decide (g i.toNat (5 : Nat) > (1048576 : Int)) then true else decide (g i.toNat (6 : Nat) < (-1048576 : Int)) then true else decide (g i.toNat (6 : Nat) > (1048576 : Int))) = true then (some ((i64 ((2 : Int)), []))) else (if (bif g i.toNat (1 : Nat) != (2 : Int) then bif g i.toNat (5 : Nat) != (0 : Int) then true else g i.toNat (6 : Nat) != (0 : Int) else false) = true then (some ((i64 ((4 : Int)), []))) else (rounds (yTk fl) (kTk fl) mm ([((10 : Nat), none, i64 ((W (i + (1 : Int))))), ((9 : Nat), none, i64 ((↑n : Int))), ((8 : Nat), none, PV.one (PS.view n (7 : Nat) (rj (7 : Nat) g J))), ((2 : Nat), none, i64 ((0 : Int))), ((0 : Nat), none, PV.one (PS.view n (7 : Nat) (rj (7 : Nat) g J)))]) ([])))))) else (some ((i64 ((0 : Int)), [])))) := by kernel_rfl
theorem tk_eq (n : Nat) (g : Nat → Nat → Int) (J : Nat → Nat → PS) (h : q_effP n g) : callF prog gl noD 14 O2 0 28 [.one (.view n 7 (rj 7 g J))] [] = some (i64 0, []) := by
  obtain ⟨hn, hg⟩ := h
  rw [tk_pre, if_neg (by simp <;> omega)]
  refine loop_ex (body := yTk 14) (K := kTk 14) (σ := Unit) (fun i _ => hTk n (rj 7 g J) ((i : Nat) : Int)) (fun _ _ => []) (fun _ _ => True) n (Z := fun x => x = some (i64 0, [])) ?_ ?_ 14 0 () (by omega) (by omega) trivial
  · intro i _ mm hi _
    refine ⟨(), trivial, ?_⟩
    obtain ⟨⟨a1, a2⟩, ⟨a3, a4⟩, ⟨a5, a6⟩, ⟨a7, a8⟩, ⟨a9, a10⟩, ⟨a11, a12⟩, ⟨a13, a14⟩, a15⟩ := hg i hi
    rw [tk_st, if_pos (by simp <;> omega), chk_true (by simp <;> omega), Int.toNat_natCast, if_neg (by
        rw [decide_eq_false (by omega), decide_eq_false (by omega), decide_eq_false (by omega), decide_eq_false (by omega)]; decide), if_neg (by
        rw [decide_eq_false (by omega), decide_eq_false (by omega), decide_eq_false (by omega), decide_eq_false (by omega), decide_eq_false (by omega), decide_eq_false (by omega), decide_eq_false (by omega), decide_eq_false (by omega), decide_eq_false (by omega), decide_eq_false (by omega)]; decide), if_neg (by
        by_cases e : g i 1 = 2
        · rw [e]; simp
        · obtain ⟨e5, e6⟩ := a15 e
          rw [e5, e6]; simp), W_nat (by omega)]
  · intro _ mm _
    rw [tk_st, if_neg (by simp)]
noncomputable def aTk : Nat → List PV → Heap → Option (Bool × PV × Heap)
  | 0, [.one (.view n 7 row)], [] => some (q_dec (q_isJ 7 row ∧ q_effP n (q_num n 7 row)), i64 0, [])
  | _, _, _ => none
noncomputable def O3 : Orac := addM 28 aTk O2
theorem sO3 : Sound prog gl O3 := add1 sO2 (fun nb vs H v H' h => by
  unfold aTk at h
  split at h
  · rename_i n row
    obtain ⟨h1, h2, h3⟩ : q_dec (q_isJ 7 row ∧ q_effP n (q_num n 7 row)) = true ∧ i64 0 = v ∧ [] = H' := by simpa using h
    subst h2 h3
    obtain ⟨⟨g, J, rfl⟩, h4⟩ := q_dec_iff.1 h1
    rw [num_rj] at h4
    exact ⟨14, tk_eq n g J (effP_cut h4 (Nat.le_refl _))⟩
  · cases h)
/-! times -/
abbrev pTm : List Bool := [true, true, true, false, true, false]
abbrev hTm (n : Nat) (row : Nat → Nat → PS) (s : PS) (c b e i : Int) : En := [(12, none, i64 i), (11, none, i64 n), (10, none, .one (.view n 7 row)), (6, none, i64 e), (5, none, i64 b), (4, none, i64 c), (3, none, .one s), (2, none, .one .nils), (0, none, .one (.view n 7 row))]
noncomputable abbrev yTm (fl : Nat) : En → Heap → (Exit → En → Heap → Option (PV × Heap)) → Option (PV × Heap) := bodyAt prog gl O3 noD f29 1 0 fl pTm
noncomputable abbrev kTm (fl : Nat) := kAt prog gl O3 noD f29 1 0 fl pTm
theorem tm_pre (fl n : Nat) (row : Nat → Nat → PS) : callF prog gl noD fl O3 0 29 [.one (.view n 7 row)] [] = (rounds (yTm fl) (kTm fl) fl ([((12 : Nat), none, i64 ((0 : Int))), ((11 : Nat), none, i64 ((↑n : Int))), ((10 : Nat), none, PV.one (PS.view n (7 : Nat) row)), ((6 : Nat), none, i64 ((0 : Int))), ((5 : Nat), none, i64 ((0 : Int))), ((4 : Nat), none, i64 ((0 : Int))), ((3 : Nat), none, PV.one PS.nils), ((2 : Nat), none, PV.one PS.nils), ((0 : Nat), none, PV.one (PS.view n (7 : Nat) row))]) ([])) := by kernel_rfl
theorem tm_one (fl mm n : Nat) (g : Nat → Nat → Int) (J : Nat → Nat → PS) (c b e i : Int) : rounds (yTm fl) (kTm fl) (mm + 1) (hTm n (rj 7 g J) .nils c b e i) [] = (if (decide (i < (↑n : Int))) = true then (chk true (decide ((0 : Int) ≤ i) && decide (i < (↑n : Int))) (if (g i.toNat (2 : Nat) == (0 : Int)) = true then (rounds (yTm fl) (kTm fl) mm ([((12 : Nat), none, i64 ((W (i + (1 : Int))))), ((11 : Nat), none, i64 ((↑n : Int))), ((10 : Nat), none, PV.one (PS.view n (7 : Nat) (rj (7 : Nat) g J))), ((6 : Nat), none, i64 ((bif decide (W (W ((0 : Int) + g i.toNat (3 : Nat)) + g i.toNat (4 : Nat)) > (0 : Int)) then W (W ((0 : Int) + g i.toNat (3 : Nat)) + g i.toNat (4 : Nat)) else (0 : Int)))), ((5 : Nat), none, i64 ((0 : Int))), ((4 : Nat), none, i64 ((W (c + (1 : Int))))), ((3 : Nat), none, PV.one (PS.os (45 : Nat))), ((2 : Nat), none, PV.one PS.nils), ((0 : Nat), none, PV.one (PS.view n (7 : Nat) (rj (7 : Nat) g J)))]) ([((45 : Nat), OB.rows (44 : Nat) (3 : Nat) (1 : Nat) (appRow (0 : Nat) (fun _ _ ↦ PS.nilp) (litRow (3 : Nat) [PS.int IntKind.i64 (W (c + (1 : Int))), PS.int IntKind.i64 (W ((0 : Int) + g i.toNat (3 : Nat))), PS.int IntKind.i64 (W (W ((0 : Int) + g i.toNat (3 : Nat)) + g i.toNat (4 : Nat)))])))])) else (if (g i.toNat (2 : Nat) == (2 : Int)) = true then (rounds (yTm fl) (kTm fl) mm ([((12 : Nat), none, i64 ((W (i + (1 : Int))))), ((11 : Nat), none, i64 ((↑n : Int))), ((10 : Nat), none, PV.one (PS.view n (7 : Nat) (rj (7 : Nat) g J))), ((6 : Nat), none, i64 ((bif decide (W (W (e + g i.toNat (3 : Nat)) + g i.toNat (4 : Nat)) > e) then W (W (e + g i.toNat (3 : Nat)) + g i.toNat (4 : Nat)) else e))), ((5 : Nat), none, i64 (e)), ((4 : Nat), none, i64 (c)), ((3 : Nat), none, PV.one (PS.os (45 : Nat))), ((2 : Nat), none, PV.one PS.nils), ((0 : Nat), none, PV.one (PS.view n (7 : Nat) (rj (7 : Nat) g J)))]) ([((45 : Nat), OB.rows (44 : Nat) (3 : Nat) (1 : Nat) (appRow (0 : Nat) (fun _ _ ↦ PS.nilp) (litRow (3 : Nat) [PS.int IntKind.i64 c, PS.int IntKind.i64 (W (e + g i.toNat (3 : Nat))), PS.int IntKind.i64 (W (W (e + g i.toNat (3 : Nat)) + g i.toNat (4 : Nat)))])))])) else (rounds (yTm fl) (kTm fl) mm ([((12 : Nat), none, i64 ((W (i + (1 : Int))))), ((11 : Nat), none, i64 ((↑n : Int))), ((10 : Nat), none, PV.one (PS.view n (7 : Nat) (rj (7 : Nat) g J))), ((6 : Nat), none, i64 ((bif decide (W (W (b + g i.toNat (3 : Nat)) + g i.toNat (4 : Nat)) > e) then W (W (b + g i.toNat (3 : Nat)) + g i.toNat (4 : Nat)) else e))), ((5 : Nat), none, i64 (b)), ((4 : Nat), none, i64 (c)), ((3 : Nat), none, PV.one (PS.os (45 : Nat))), ((2 : Nat), none, PV.one PS.nils), ((0 : Nat), none, PV.one (PS.view n (7 : Nat) (rj (7 : Nat) g J)))]) ([((45 : Nat), OB.rows (44 : Nat) (3 : Nat) (1 : Nat) (appRow (0 : Nat) (fun _ _ ↦ PS.nilp) (litRow (3 : Nat) [PS.int IntKind.i64 c, PS.int IntKind.i64 (W (b + g i.toNat (3 : Nat))), PS.int IntKind.i64 (W (W (b + g i.toNat (3 : Nat)) + g i.toNat (4 : Nat)))])))]))))) else (some ((PV.one PS.nils, [])))) := by kernel_rfl
theorem tm_st (fl mm n l : Nat) (g : Nat → Nat → Int) (J row : Nat → Nat → PS) (c b e i : Int) : rounds (yTm fl) (kTm fl) (mm + 1) (hTm n (rj 7 g J) (.os 45) c b e i) [(45, .rows 44 3 l row)] = (if (decide (i < (↑n : Int))) = true then (chk true (decide ((0 : Int) ≤ i) && decide (i < (↑n : Int))) (if (g i.toNat (2 : Nat) == (0 : Int)) = true then (if (true && (decide (l + (1 : Nat) ≤ (9223372036854775807 : Nat)) && decide ((l + (1 : Nat)) * (24 : Nat) ≤ (140737488355328 : Nat)))) = true then (rounds (yTm fl) (kTm fl) mm ([((12 : Nat), none, i64 ((W (i + (1 : Int))))), ((11 : Nat), none, i64 ((↑n : Int))), ((10 : Nat), none, PV.one (PS.view n (7 : Nat) (rj (7 : Nat) g J))), ((6 : Nat), none, i64 ((bif decide (W (W ((0 : Int) + g i.toNat (3 : Nat)) + g i.toNat (4 : Nat)) > (0 : Int)) then W (W ((0 : Int) + g i.toNat (3 : Nat)) + g i.toNat (4 : Nat)) else (0 : Int)))), ((5 : Nat), none, i64 ((0 : Int))), ((4 : Nat), none, i64 ((W (c + (1 : Int))))), ((3 : Nat), none, PV.one (PS.os (45 : Nat))), ((2 : Nat), none, PV.one PS.nils), ((0 : Nat), none, PV.one (PS.view n (7 : Nat) (rj (7 : Nat) g J)))]) ([((45 : Nat), OB.rows (44 : Nat) (3 : Nat) (l + (1 : Nat)) (appRow l row (litRow (3 : Nat) [PS.int IntKind.i64 (W (c + (1 : Int))), PS.int IntKind.i64 (W ((0 : Int) + g i.toNat (3 : Nat))), PS.int IntKind.i64 (W (W ((0 : Int) + g i.toNat (3 : Nat)) + g i.toNat (4 : Nat)))])))])) else none) else (if (g i.toNat (2 : Nat) == (2 : Int)) = true then (if (true && (decide (l + (1 : Nat) ≤ (9223372036854775807 : Nat)) && decide ((l + (1 : Nat)) * (24 : Nat) ≤ (140737488355328 : Nat)))) = true then (rounds (yTm fl) (kTm fl) mm ([((12 : Nat), none, i64 ((W (i + (1 : Int))))), ((11 : Nat), none, i64 ((↑n : Int))), ((10 : Nat), none, PV.one (PS.view n (7 : Nat) (rj (7 : Nat) g J))), ((6 : Nat), none, i64 ((bif decide (W (W (e + g i.toNat (3 : Nat)) + g i.toNat (4 : Nat)) > e) then W (W (e + g i.toNat (3 : Nat)) + g i.toNat (4 : Nat)) else e))), ((5 : Nat), none, i64 (e)), ((4 : Nat), none, i64 (c)), ((3 : Nat), none, PV.one (PS.os (45 : Nat))), ((2 : Nat), none, PV.one PS.nils), ((0 : Nat), none, PV.one (PS.view n (7 : Nat) (rj (7 : Nat) g J)))]) ([((45 : Nat), OB.rows (44 : Nat) (3 : Nat) (l + (1 : Nat)) (appRow l row (litRow (3 : Nat) [PS.int IntKind.i64 c, PS.int IntKind.i64 (W (e + g i.toNat (3 : Nat))), PS.int IntKind.i64 (W (W (e + g i.toNat (3 : Nat)) + g i.toNat (4 : Nat)))])))])) else none) else (if (true && (decide (l + (1 : Nat) ≤ (9223372036854775807 : Nat)) && decide ((l + (1 : Nat)) * (24 : Nat) ≤ (140737488355328 : Nat)))) = true then (rounds (yTm fl) (kTm fl) mm ([((12 : Nat), none, i64 ((W (i + (1 : Int))))), ((11 : Nat), none, i64 ((↑n : Int))), ((10 : Nat), none, PV.one (PS.view n (7 : Nat) (rj (7 : Nat) g J))), ((6 : Nat), none, i64 ((bif decide (W (W (b + g i.toNat (3 : Nat)) + g i.toNat (4 : Nat)) > e) then W (W (b + g i.toNat (3 : Nat)) + g i.toNat (4 : Nat)) else e))), ((5 : Nat), none, i64 (b)), ((4 : Nat), none, i64 (c)), ((3 : Nat), none, PV.one (PS.os (45 : Nat))), ((2 : Nat), none, PV.one PS.nils), ((0 : Nat), none, PV.one (PS.view n (7 : Nat) (rj (7 : Nat) g J)))]) ([((45 : Nat), OB.rows (44 : Nat) (3 : Nat) (l + (1 : Nat)) (appRow l row (litRow (3 : Nat) [PS.int IntKind.i64 c, PS.int IntKind.i64 (W (b + g i.toNat (3 : Nat))), PS.int IntKind.i64 (W (W (b + g i.toNat (3 : Nat)) + g i.toNat (4 : Nat)))])))])) else none)))) else (some ((PV.one (PS.os (0 : Nat)), [((0 : Nat), OB.rows (44 : Nat) (3 : Nat) l row)])))) := by kernel_rfl
/-- Clicks, the base and the end behind the first effects. -/
def q_ts (g : Nat → Nat → Int) : Nat → Int × Int × Int
  | 0 => (0, 0, 0)
  | i + 1 => if g i 2 = 0 then ((q_ts g i).1 + 1, 0, max 0 (g i 3 + g i 4)) else if g i 2 = 2 then ((q_ts g i).1, (q_ts g i).2.2, max (q_ts g i).2.2 ((q_ts g i).2.2 + g i 3 + g i 4)) else ((q_ts g i).1, (q_ts g i).2.1, max (q_ts g i).2.2 ((q_ts g i).2.1 + g i 3 + g i 4))
/-- The times of the effects. -/
def q_tl (g : Nat → Nat → Int) (i : Nat) : List Int := [(q_ts g (i + 1)).1, (q_ts g (i + 1)).2.1 + g i 3, (q_ts g (i + 1)).2.1 + g i 3 + g i 4]
def q_tm (g : Nat → Nat → Int) : Nat → Nat → Int := fun i j => (q_tl g i).getD j 0
theorem ts_le {n : Nat} {g : Nat → Nat → Int} (h : q_effP n g) : ∀ i, i ≤ n → (0 ≤ (q_ts g i).1 ∧ (q_ts g i).1 ≤ i) ∧ (0 ≤ (q_ts g i).2.1 ∧ (q_ts g i).2.1 ≤ 1000 * i) ∧ 0 ≤ (q_ts g i).2.2 ∧ (q_ts g i).2.2 ≤ 1000 * i := by
  intro i
  induction i with
  | zero => intro _; simp [q_ts]
  | succ i ih =>
    intro hi
    obtain ⟨b1, b2, b3⟩ := ih (by omega)
    obtain ⟨_, _, _, a3, a4, _⟩ := h.2 i (by omega)
    simp only [q_ts]
    split
    · simp only; omega
    · split
      · simp only; omega
      · simp only; omega
theorem tm_loop (fl n : Nat) (g : Nat → Nat → Int) (J : Nat → Nat → PS) (h : q_effP n g) : ∀ (m i : Nat) (row : Nat → Nat → PS), i ≤ n → n < i + m → (RowIs 3 i (q_tm g) row ∧ 1 ≤ i) →
    ∃ row', rounds (yTm fl) (kTm fl) m (hTm n (rj 7 g J) (.os 45) (q_ts g i).1 (q_ts g i).2.1 (q_ts g i).2.2 (i : Nat)) [(45, .rows 44 3 i row)] = some (.one (.os 0), [(0, .rows 44 3 n row')]) ∧ RowIs 3 n (q_tm g) row' := by
  refine loop_ex (body := yTm fl) (K := kTm fl) (σ := Nat → Nat → PS) (fun i _ => hTm n (rj 7 g J) (.os 45) (q_ts g i).1 (q_ts g i).2.1 (q_ts g i).2.2 ((i : Nat) : Int)) (fun i row => [(45, .rows 44 3 i row)]) (fun i row => RowIs 3 i (q_tm g) row ∧ 1 ≤ i) n (Z := fun x => ∃ row', x = some (PV.one (.os 0), [(0, OB.rows 44 3 n row')]) ∧ RowIs 3 n (q_tm g) row') ?_ ?_
  · intro i row m hi hI
    refine ⟨appRow i row (litRow 3 ((q_tl g i).map (PS.int .i64))), ⟨rowIs_app hI.1 rfl (fun j _ => rfl), by omega⟩, ?_⟩
    obtain ⟨b1, b2, b3⟩ := ts_le h i (by omega)
    have hn := h.1
    obtain ⟨_, _, _, a3, a4, _⟩ := h.2 i hi
    rw [tm_st, if_pos (by simp <;> omega), chk_true (by simp <;> omega), Int.toNat_natCast, W_nat (by omega)]
    by_cases h0 : g i 2 = 0
    · have e : q_ts g (i + 1) = ((q_ts g i).1 + 1, 0, max 0 (g i 3 + g i 4)) := by simp only [q_ts]; rw [if_pos h0]
      rw [if_pos (by simpa using h0), if_pos (by simp <;> omega), bmax]
      simp only [q_tl, e]
      rw [W_id (n := (q_ts g i).1 + 1) (by omega) (by omega), W_id (n := 0 + g i 3) (by omega) (by omega), W_id (n := 0 + g i 3 + g i 4) (by omega) (by omega), show (0 : Int) + g i 3 + g i 4 = g i 3 + g i 4 by omega, show max (0 : Int) (g i 3 + g i 4) = max 0 (g i 3 + g i 4) from rfl]
      simp only [Int.zero_add]
      rfl
    · by_cases h2 : g i 2 = 2
      · have e : q_ts g (i + 1) = ((q_ts g i).1, (q_ts g i).2.2, max (q_ts g i).2.2 ((q_ts g i).2.2 + g i 3 + g i 4)) := by simp only [q_ts]; rw [if_neg h0, if_pos h2]
        rw [if_neg (by simpa using h0), if_pos (by simpa using h2), if_pos (by simp <;> omega), bmax]
        simp only [q_tl, e]
        rw [W_id (n := (q_ts g i).2.2 + g i 3) (by omega) (by omega), W_id (n := (q_ts g i).2.2 + g i 3 + g i 4) (by omega) (by omega)]
        rfl
      · have e : q_ts g (i + 1) = ((q_ts g i).1, (q_ts g i).2.1, max (q_ts g i).2.2 ((q_ts g i).2.1 + g i 3 + g i 4)) := by simp only [q_ts]; rw [if_neg h0, if_neg h2]
        rw [if_neg (by simpa using h0), if_neg (by simpa using h2), if_pos (by simp <;> omega), bmax]
        simp only [q_tl, e]
        rw [W_id (n := (q_ts g i).2.1 + g i 3) (by omega) (by omega), W_id (n := (q_ts g i).2.1 + g i 3 + g i 4) (by omega) (by omega)]
        rfl
  · intro row m hI
    refine ⟨row, ?_, hI.1⟩
    rw [tm_st, if_neg (by simp)]
theorem tm_ex (n : Nat) (h0n : 0 < n) (g : Nat → Nat → Int) (J : Nat → Nat → PS) (h : q_effP n g) : ∃ row', callF prog gl noD 14 O3 0 29 [.one (.view n 7 (rj 7 g J))] [] = some (.one (.os 0), [(0, .rows 44 3 n row')]) ∧ RowIs 3 n (q_tm g) row' := by
  have hn := h.1
  rw [tm_pre]
  refine (congrArg (fun z => ∃ row', z = some (PV.one (.os 0), [(0, OB.rows 44 3 n row')]) ∧ RowIs 3 n (q_tm g) row') ?_).mpr (tm_loop 14 n g J h 13 1 (appRow 0 (fun _ _ => .nilp) (litRow 3 ((q_tl g 0).map (PS.int .i64)))) (by omega) (by omega) ⟨rowIs_first rfl (fun j _ => rfl), by omega⟩)
  refine (tm_one 14 13 n g J 0 0 0 (0 : Nat)).trans ?_
  obtain ⟨_, _, _, a3, a4, _⟩ := h.2 0 (by omega)
  rw [if_pos (by simp <;> omega), chk_true (by simp <;> omega), Int.toNat_natCast, W_nat (by omega)]
  by_cases h0 : g 0 2 = 0
  · have e : q_ts g (0 + 1) = (0 + 1, 0, max 0 (g 0 3 + g 0 4)) := by simp only [q_ts]; rw [if_pos h0]
    rw [if_pos (by simpa using h0), bmax]
    simp only [q_tl, e]
    rw [W_id (n := 0 + 1) (by omega) (by omega), W_id (n := 0 + g 0 3) (by omega) (by omega), W_id (n := 0 + g 0 3 + g 0 4) (by omega) (by omega)]
    simp only [Int.zero_add]
    rfl
  · by_cases h2 : g 0 2 = 2
    · have e : q_ts g (0 + 1) = (0, 0, max 0 (0 + g 0 3 + g 0 4)) := by simp only [q_ts]; rw [if_neg h0, if_pos h2]
      rw [if_neg (by simpa using h0), if_pos (by simpa using h2), bmax]
      simp only [q_tl, e]
      rw [W_id (n := 0 + g 0 3) (by omega) (by omega), W_id (n := 0 + g 0 3 + g 0 4) (by omega) (by omega)]
      rfl
    · have e : q_ts g (0 + 1) = (0, 0, max 0 (0 + g 0 3 + g 0 4)) := by simp only [q_ts]; rw [if_neg h0, if_neg h2]
      rw [if_neg (by simpa using h0), if_neg (by simpa using h2), bmax]
      simp only [q_tl, e]
      rw [W_id (n := 0 + g 0 3) (by omega) (by omega), W_id (n := 0 + g 0 3 + g 0 4) (by omega) (by omega)]
      rfl
theorem ts_cut {n : Nat} {g : Nat → Nat → Int} : ∀ i, i ≤ n → q_ts (cut n 7 g) i = q_ts g i := by
  intro i
  induction i with
  | zero => intro _; rfl
  | succ i ih =>
    intro hi
    simp only [q_ts, ih (by omega), cut_in (show i < n by omega) (show 2 < 7 by omega), cut_in (show i < n by omega) (show 3 < 7 by omega), cut_in (show i < n by omega) (show 4 < 7 by omega)]
theorem tm_cut {n : Nat} {g : Nat → Nat → Int} {i j : Nat} (hi : i < n) : q_tm (cut n 7 g) i j = q_tm g i j := by
  unfold q_tm q_tl
  rw [ts_cut (i + 1) (by omega), cut_in hi (show 3 < 7 by omega), cut_in hi (show 4 < 7 by omega)]
noncomputable def aTm : Nat → List PV → Heap → Option (Bool × PV × Heap)
  | 0, [.one (.view n 7 row)], [] => some (q_dec (0 < n ∧ q_isJ 7 row ∧ q_effP n (q_num n 7 row)), .one (.os 0), [(0, .rows 44 3 n (q_row 3 (q_tm (q_num n 7 row))))])
  | _, _, _ => none
noncomputable def O4 : Orac := addM 29 aTm O3
theorem sO4 : Sound prog gl O4 := add_ag (D := noD) sO3 sO3 mo (fun nb vs H v H' h => by
  unfold aTm at h
  split at h
  · rename_i n row
    obtain ⟨h1, h2, h3⟩ : q_dec (0 < n ∧ q_isJ 7 row ∧ q_effP n (q_num n 7 row)) = true ∧ .one (.os 0) = v ∧ [(0, OB.rows 44 3 n (q_row 3 (q_tm (q_num n 7 row))))] = H' := by simpa using h
    subst h2 h3
    obtain ⟨h0n, ⟨g, J, rfl⟩, h4⟩ := q_dec_iff.1 h1
    rw [num_rj] at h4
    obtain ⟨row', e1, B', J', rfl, e2⟩ := tm_ex n h0n g J (effP_cut h4 (Nat.le_refl _))
    refine ⟨14, _, _, e1, agV_refl _, .inr ⟨0, _, 3, _, _, _, [], rfl, rfl, rj_ag (fun i j hi hj => ?_), fun p hp => nomatch hp⟩⟩
    rw [num_rj, tm_cut hi]
    exact e2 i j hi hj
  · cases h)
/-! progress, part -/
theorem pg_raw (fl : Nat) (a b c d e : Int) : callF prog gl noD fl O4 0 31 [.agg [.int .i64 a, .int .i64 b, .int .i64 c], i64 d, i64 e] [] = (if (bif decide (a < d) then true else bif a == d then decide (e ≥ c) else false) = true then (some ((i64 ((1000 : Int)), []))) else (if (bif decide (a > d) then true else decide (e ≤ b)) = true then (some ((i64 ((0 : Int)), []))) else (chk true (W (c - b) != (0 : Int)) (some ((i64 ((W ((W ((1000 : Int) * W (e - b))).tdiv (W (c - b))))), [])))))) := by kernel_rfl
def q_pg (a b c d e : Int) : Int := if a < d ∨ (a = d ∧ c ≤ e) then 1000 else if d < a ∨ e ≤ b then 0 else (1000 * (e - b)) / (c - b)
def q_pgP (a b c d e : Int) : Prop := (0 ≤ b ∧ b ≤ c ∧ c ≤ 100000) ∧ -100000000 ≤ e ∧ e ≤ 100000000
theorem pg_eq (fl : Nat) (a b c d e : Int) (h : q_pgP a b c d e) : callF prog gl noD fl O4 0 31 [.agg [.int .i64 a, .int .i64 b, .int .i64 c], i64 d, i64 e] [] = some (i64 (q_pg a b c d e), []) := by
  obtain ⟨⟨b1, b2, b3⟩, e1, e2⟩ := h
  rw [pg_raw]
  unfold q_pg
  by_cases h1 : a < d ∨ (a = d ∧ c ≤ e)
  · rw [if_pos h1, if_pos (by
      rcases h1 with h1 | ⟨h1, h2⟩
      · simp [h1]
      · subst h1; simp [h2])]
  · rw [if_neg h1, if_neg (by
      intro hc
      refine h1 ?_
      by_cases q : a < d
      · exact .inl q
      · rw [decide_eq_false q] at hc
        have hc : (bif a == d then decide (e ≥ c) else false) = true := hc
        by_cases q2 : a = d
        · subst q2; rw [beq_self_eq_true] at hc; exact .inr ⟨rfl, of_decide_eq_true hc⟩
        · rw [beq_false_of_ne q2] at hc; cases hc)]
    by_cases h2 : d < a ∨ e ≤ b
    · rw [if_pos h2, if_pos (by rcases h2 with h2 | h2 <;> simp [h2])]
    · rw [if_neg h2, if_neg (by
        intro hc
        refine h2 ?_
        by_cases q : a > d
        · exact .inl q
        · rw [decide_eq_false q] at hc
          exact .inr (of_decide_eq_true hc))]
      have m1 : 0 ≤ 1000 * (e - b) := by omega
      have d1 : (1000 * (e - b)).tdiv (c - b) = (1000 * (e - b)) / (c - b) := Int.tdiv_eq_ediv_of_nonneg m1
      have d2 := Int.ediv_nonneg (b := c - b) m1 (by omega)
      have d3 := Int.ediv_le_self (c - b) m1
      rw [W_id (n := c - b) (by omega) (by omega), W_id (n := e - b) (by omega) (by omega), W_id (n := 1000 * (e - b)) (by omega) (by omega), chk_true (by simp <;> omega), d1, W_id (by omega) (by omega)]
noncomputable def aPg : Nat → List PV → Heap → Option (Bool × PV × Heap)
  | 0, [.agg [.int .i64 a, .int .i64 b, .int .i64 c], .one (.int .i64 d), .one (.int .i64 e)], [] => some (q_dec (q_pgP a b c d e), i64 (q_pg a b c d e), [])
  | _, _, _ => none
noncomputable def O5 : Orac := addM 31 aPg O4
theorem sO5 : Sound prog gl O5 := add1 sO4 (fun nb vs H v H' h => by
  unfold aPg at h
  split at h
  · rename_i a b c d e
    obtain ⟨h1, h2, h3⟩ : q_dec (q_pgP a b c d e) = true ∧ i64 (q_pg a b c d e) = v ∧ [] = H' := by simpa using h
    subst h2 h3
    exact ⟨1, pg_eq 1 a b c d e (q_dec_iff.1 h1)⟩
  · cases h)
theorem pt_raw5 (fl : Nat) (d e : Int) : callF prog gl noD fl O5 0 32 [i64 d, i64 e] [] = (some ((i64 ((W ((W (d * e)).tdiv (1000 : Int)))), []))) := by kernel_rfl
def q_pt (d e : Int) : Int := (d * e).tdiv 1000
def q_ptP (d e : Int) : Prop := (-1000 ≤ d ∧ d ≤ 1000) ∧ 0 ≤ e ∧ e ≤ 1000
theorem pt_le {d e : Int} (h : q_ptP d e) : (-1000000 ≤ d * e ∧ d * e ≤ 1000000) ∧ -1000 ≤ q_pt d e ∧ q_pt d e ≤ 1000 := by
  obtain ⟨⟨h1, h2⟩, h3, h4⟩ := h
  have m1 : d * e ≤ 1000 * e := Int.mul_le_mul_of_nonneg_right h2 h3
  have m2 : -1000 * e ≤ d * e := Int.mul_le_mul_of_nonneg_right h1 h3
  have e1 := Int.mul_tdiv_add_tmod (d * e) 1000
  have e2 := tmod_lt (a := d * e) (m := 1000) (by omega)
  unfold q_pt
  omega
theorem pt_eq (fl : Nat) (d e : Int) (h : q_ptP d e) : callF prog gl noD fl O5 0 32 [i64 d, i64 e] [] = some (i64 (q_pt d e), []) := by
  obtain ⟨b1, b2⟩ := pt_le h
  refine (pt_raw5 fl d e).trans ?_
  rw [W_id (n := d * e) (by omega) (by omega)]
  show some (i64 (W (q_pt d e)), []) = _
  rw [W_id (by omega) (by omega)]
noncomputable def aPt : Nat → List PV → Heap → Option (Bool × PV × Heap)
  | 0, [.one (.int .i64 d), .one (.int .i64 e)], [] => some (q_dec (q_ptP d e), i64 (q_pt d e), [])
  | _, _, _ => none
noncomputable def O6 : Orac := addM 32 aPt O5
theorem sO6 : Sound prog gl O6 := add1 sO5 (fun nb vs H v H' h => by
  unfold aPt at h
  split at h
  · rename_i d e
    obtain ⟨h1, h2, h3⟩ : q_dec (q_ptP d e) = true ∧ i64 (q_pt d e) = v ∧ [] = H' := by simpa using h
    subst h2 h3
    exact ⟨1, pt_eq 1 d e (q_dec_iff.1 h1)⟩
  · cases h)
end Go.Proofs.Ytlhgmlfhlbmjpaa.Sh
