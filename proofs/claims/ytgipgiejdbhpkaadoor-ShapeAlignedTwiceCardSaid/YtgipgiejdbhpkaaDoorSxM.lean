import Derived.Test.YtgipgiejdbhpkaaDoorSxL
namespace Go.Proofs.YtgipgiejdbhpkaaDoor.Sh
open Go Go.RowKit Go.Proofs.YtgipgiejdbhpkaaDoor.Ev Go.Proofs.Tryd
set_option maxRecDepth 1000000
set_option linter.unusedVariables false
/-! Clone, move -/
theorem cln_raw (n : Nat) (row : Nat → Nat → PS) : callF prog gl DS 1 O21 0 25 [.one (.view n 12 row)] [] = (chk true (decide ((0 : Nat) < n)) (if (decide ((0 : Nat) < n) && (decide ((0 : Nat) + n ≤ (9223372036854775807 : Nat)) && decide (((0 : Nat) + n) * (112 : Nat) ≤ (140737488355328 : Nat)))) = true then (some ((PV.one (PS.os (0 : Nat)), [((0 : Nat), OB.rows (26 : Nat) (12 : Nat) ((0 : Nat) + n) (appRow (0 : Nat) (litRow (12 : Nat) []) row))]))) else none)) := by kernel_rfl
theorem mv_raw (n i : Nat) (g : Nat → Nat → Int) (sx : Nat → Nat → ByteArray) (jx : Nat → Nat → PS) (a b : Int) : callF prog gl DS 1 O21 1 26 [.one (.rp 0 12 i 0), i64 a, i64 b] [(0, .rows 26 12 n (rwj g sx jx))] = (if (a == (0 : Int)) = true then (chk true (decide (i < n) && true) (if (decide (i < n)) = true then (some ((PV.tup [], [((0 : Nat), OB.rows (26 : Nat) (12 : Nat) n (putRow (rwj g sx jx) i (3 : Nat) [PS.int IntKind.i64 (W (g i (3 : Nat) + b))]))]))) else none)) else (chk true (decide (i < n) && true) (if (decide (i < n)) = true then (some ((PV.tup [], [((0 : Nat), OB.rows (26 : Nat) (12 : Nat) n (putRow (rwj g sx jx) i (4 : Nat) [PS.int IntKind.i64 (W (g i (4 : Nat) + b))]))]))) else none))) := by kernel_rfl
/-! Equal -/
abbrev pEq : List Bool := [true, true, false, true, false]
noncomputable abbrev yEq (fl : Nat) : En → Heap → (Exit → En → Heap → Option (PV × Heap)) → Option (PV × Heap) := bodyAt prog gl O21 noD f13 2 0 fl pEq
noncomputable abbrev kEq (fl : Nat) := kAt prog gl O21 noD f13 2 0 fl pEq
theorem eq_pre (fl n m : Nat) (r s : Nat → Nat → PS) : callF prog gl noD fl O21 0 13 [.one (.view n 12 r), .one (.view m 12 s)] [] = (if ((↑n : Int) != (↑m : Int)) = true then (some ((PV.one (PS.bool false), []))) else (rounds (yEq fl) (kEq fl) fl ([((13 : Nat), none, i64 ((0 : Int))), ((12 : Nat), none, i64 ((↑n : Int))), ((4 : Nat), none, PV.one (PS.bool false)), ((0 : Nat), none, PV.one (PS.view n (12 : Nat) r)), ((1 : Nat), none, PV.one (PS.view m (12 : Nat) s))]) ([]))) := by kernel_rfl
abbrev hEq (n m : Nat) (r s : Nat → Nat → PS) (i : Int) : En := [(13, none, i64 i), (12, none, i64 n), (4, none, bl false), (0, none, .one (.view n 12 r)), (1, none, .one (.view m 12 s))]
theorem eq_st (fl mm n m : Nat) (g g' : Nat → Nat → Int) (sx sx' : Nat → Nat → ByteArray) (J J' : Nat → Nat → PS) (i : Int) : rounds (yEq fl) (kEq fl) (mm + 1) (hEq n m (rwj g sx J) (rwj g' sx' J') i) [] = (if (decide (i < (↑n : Int))) = true then (chk true (decide ((0 : Int) ≤ i) && decide (i < (↑n : Int))) (chk true (decide ((0 : Int) ≤ i) && decide (i < (↑m : Int))) (if (!(g i.toNat (0 : Nat) == g' i.toNat (0 : Nat) && (g i.toNat (1 : Nat) == g' i.toNat (1 : Nat) && (g i.toNat (2 : Nat) == g' i.toNat (2 : Nat) && (g i.toNat (3 : Nat) == g' i.toNat (3 : Nat) && (g i.toNat (4 : Nat) == g' i.toNat (4 : Nat) && (g i.toNat (5 : Nat) == g' i.toNat (5 : Nat) && (g i.toNat (6 : Nat) == g' i.toNat (6 : Nat) && (g i.toNat (7 : Nat) == g' i.toNat (7 : Nat) && (g i.toNat (8 : Nat) == g' i.toNat (8 : Nat) && (g i.toNat (9 : Nat) == g' i.toNat (9 : Nat) && (strEq (sx i.toNat (10 : Nat)) (sx' i.toNat (10 : Nat)) && (strEq (sx i.toNat (11 : Nat)) (sx' i.toNat (11 : Nat)) && true))))))))))))) = true then (some ((PV.one (PS.bool false), []))) else (rounds (yEq fl) (kEq fl) mm ([((13 : Nat), none, i64 ((W (i + (1 : Int))))), ((12 : Nat), none, i64 ((↑n : Int))), ((4 : Nat), none, PV.one (PS.bool false)), ((0 : Nat), none, PV.one (PS.view n (12 : Nat) (rwj g sx J))), ((1 : Nat), none, PV.one (PS.view m (12 : Nat) (rwj g' sx' J')))]) ([]))))) else (some ((PV.one (PS.bool true), [])))) := by kernel_rfl
theorem cln_eq (n : Nat) (hn : 0 < n ∧ n ≤ 100000) (g : Nat → Nat → Int) (sx : Nat → Nat → ByteArray) (jx : Nat → Nat → PS) : callF prog gl DS 1 O21 0 25 [.one (.view n 12 (rwj g sx jx))] [] = some (.one (.os 0), [(0, .rows 26 12 n (rwj g sx jx))]) := by
  have e : appRow 0 (litRow 12 []) (rwj g sx jx) = rwj g sx jx := by
    funext i j
    rw [appRow_eq, if_neg (by omega), Nat.sub_zero]
  rw [cln_raw, chk_true (by simp <;> omega), if_pos (by simp <;> omega), Nat.zero_add, e]
noncomputable def O22 : Orac := addM 25 (fun nb vs H => match nb, vs, H with
  | 0, [.one (.view n 12 row)], [] => some (q_dec (q_isRw row ∧ 0 < n ∧ n ≤ 100000), .one (.os 0), [(0, .rows 26 12 n row)])
  | _, _, _ => none) O21
theorem sO22 : Sound prog gl O22 := add_ok (D := DS) sO21 sO21 mo (fun nb vs H v H' h => by
  split at h
  · rename_i n row
    obtain ⟨h1, h2, h3⟩ : q_dec (q_isRw row ∧ 0 < n ∧ n ≤ 100000) = true ∧ .one (.os 0) = v ∧ [(0, OB.rows 26 12 n row)] = H' := by simpa using h
    subst h2 h3
    obtain ⟨⟨g, sx, jx, rfl⟩, hn⟩ := q_dec_iff.1 h1
    exact ⟨1, cln_eq n hn g sx jx⟩
  · cases h)
/-- A number set in a row of shapes. -/
def q_gput (row : Nat → Nat → PS) (i j : Nat) (v : Int) : Nat → Nat → PS := putRow row i j [.int .i64 v]
noncomputable def O23 : Orac := addM 26 (fun nb vs H => match nb, vs, H with
  | 1, [.one (.rp 0 12 i 0), .one (.int .i64 a), .one (.int .i64 b)], [(0, .rows 26 12 n row)] => some (q_dec (q_isRw row ∧ i < n), .tup [], [(0, .rows 26 12 n (bif a == 0 then putRow row i 3 [.int .i64 (W (q_gi (row i 3) + b))] else putRow row i 4 [.int .i64 (W (q_gi (row i 4) + b))]))])
  | _, _, _ => none) O22
theorem sO23 : Sound prog gl O23 := add_ok (D := DS) sO22 sO21 mo (fun nb vs H v H' h => by
  split at h
  · rename_i i a b n row
    obtain ⟨h1, h2, h3⟩ : q_dec (q_isRw row ∧ i < n) = true ∧ .tup [] = v ∧ [(0, OB.rows 26 12 n (bif a == 0 then putRow row i 3 [.int .i64 (W (q_gi (row i 3) + b))] else putRow row i 4 [.int .i64 (W (q_gi (row i 4) + b))]))] = H' := by simpa using h
    subst h2 h3
    obtain ⟨⟨g, sx, jx, rfl⟩, hn⟩ := q_dec_iff.1 h1
    refine ⟨1, (mv_raw n i g sx jx a b).trans ?_⟩
    have e3 : q_gi (rwj g sx jx i 3) = g i 3 := rfl
    have e4 : q_gi (rwj g sx jx i 4) = g i 4 := rfl
    rw [e3, e4]
    by_cases c : a = 0
    · rw [if_pos (by simpa using c), chk_true (by simp <;> omega), if_pos (by simpa using hn), beq_iff_eq.2 c]; rfl
    · rw [if_neg (by simpa using c), chk_true (by simp <;> omega), if_pos (by simpa using hn), beq_false_of_ne c]; rfl
  · cases h)
/-! Equal -/
def q_sEq (g g' : Nat → Nat → Int) (sx sx' : Nat → Nat → ByteArray) (i : Nat) : Prop := (∀ j, j < 10 → g i j = g' i j) ∧ sx i 10 = sx' i 10 ∧ sx i 11 = sx' i 11
theorem strEq_self (s : ByteArray) : strEq s s = true := by unfold strEq; simp
theorem eq_eq (n : Nat) (hn : n ≤ 1000) (g g' : Nat → Nat → Int) (sx sx' : Nat → Nat → ByteArray) (J J' : Nat → Nat → PS) (h : ∀ i, i < n → q_sEq g g' sx sx' i) : callF prog gl noD (n + 1) O21 0 13 [.one (.view n 12 (rwj g sx J)), .one (.view n 12 (rwj g' sx' J'))] [] = some (bl true, []) := by
  rw [eq_pre, if_neg (by simp)]
  refine loop_ex (body := yEq (n + 1)) (K := kEq (n + 1)) (σ := Unit) (fun i _ => hEq n n (rwj g sx J) (rwj g' sx' J') ((i : Nat) : Int)) (fun _ _ => []) (fun _ _ => True) n (Z := fun x => x = some (bl true, [])) ?_ ?_ (n + 1) 0 () (by omega) (by omega) trivial
  · intro i _ mm hi _
    refine ⟨(), trivial, ?_⟩
    obtain ⟨a, b, c⟩ := h i hi
    rw [eq_st, if_pos (by simpa using hi), chk_true (by simp <;> omega), chk_true (by simp <;> omega), Int.toNat_natCast, if_neg (by rw [a 0 (by omega), a 1 (by omega), a 2 (by omega), a 3 (by omega), a 4 (by omega), a 5 (by omega), a 6 (by omega), a 7 (by omega), a 8 (by omega), a 9 (by omega), b, c, strEq_self, strEq_self]; simp), W_nat (by omega)]
  · intro _ mm _
    rw [eq_st, if_neg (by simp)]
def q_eqP (n m : Nat) (r s : Nat → Nat → PS) : Prop := (n = m ∧ n ≤ 1000) ∧ ∃ g g' sx sx' J J', r = rwj g sx J ∧ s = rwj g' sx' J' ∧ ∀ i, i < n → q_sEq g g' sx sx' i
noncomputable def O24 : Orac := addM 13 (fun nb vs H => match nb, vs, H with
  | 0, [.one (.view n 12 r), .one (.view m 12 s)], [] => some (q_dec (q_eqP n m r s), bl true, [])
  | _, _, _ => none) O23
theorem sO24 : Sound prog gl O24 := add_ok (D := noD) sO23 sO21 mo (fun nb vs H v H' h => by
  split at h
  · rename_i n r m s
    obtain ⟨h1, h2, h3⟩ : q_dec (q_eqP n m r s) = true ∧ bl true = v ∧ [] = H' := by simpa using h
    subst h2 h3
    obtain ⟨⟨rfl, hn⟩, g, g', sx, sx', J, J', rfl, rfl, h4⟩ := q_dec_iff.1 h1
    exact ⟨n + 1, eq_eq n hn g g' sx sx' J J' h4⟩
  · cases h)
end Go.Proofs.YtgipgiejdbhpkaaDoor.Sh
