import Derived.Test.YtgipgiejdbhpkaaDoorSxG
namespace Go.Proofs.YtgipgiejdbhpkaaDoor.Sh
open Go Go.RowKit Go.Proofs.YtgipgiejdbhpkaaDoor.Ev Go.Proofs.Tryd
set_option maxRecDepth 1000000
set_option linter.unusedVariables false
noncomputable def O10 : Orac := addM 6 (fun nb vs H => match nb, vs, H with
  | 0, [], [] => some (true, bl true, [])
  | _, _, _ => none) O9
theorem sO10 : Sound prog gl O10 := add_ok (D := noD) sO9 sT5 mo (fun nb vs H v H' h => by
  split at h
  · obtain ⟨h1, h2⟩ : bl true = v ∧ [] = H' := by simpa using h
    subst h1 h2
    exact ⟨12, tst_raw⟩
  · cases h)
/-! rows of whole numbers: Index, Contains, Sort (of a short row) -/
noncomputable def DS : FuncId → PV := fun f => if f = 42 then bl false else if f = 11 then .agg [.bool false] else if f = 36 ∨ f = 34 ∨ f = 33 ∨ f = 22 ∨ f = 11 then .fn 0 [] else i64 0
noncomputable def DN : FuncId → PV := fun f => if f = 52 then bl false else i64 0
theorem sC1 : Sound prog gl (upM (callF prog gl noD 1 noM)) := callF_ok none_ok mo 1
theorem cl_raw (a b : Int) : callF prog gl DN 1 (upM (callF prog gl noD 1 noM)) 0 42 [i64 a, i64 b] [] = (if (bif a == a then false else true) = true then (some ((PV.one (PS.bool (bif bif a != a then !b != b else false then true else decide (a < b))), []))) else (some ((PV.one (PS.bool (bif bif a != a then true else false then true else decide (a < b))), [])))) := by kernel_rfl
theorem cl_eq (a b : Int) : callF prog gl DN 1 (upM (callF prog gl noD 1 noM)) 0 42 [i64 a, i64 b] [] = some (bl (decide (a < b)), []) := by
  rw [cl_raw, beq_self_eq_true]
  simp
noncomputable def O11 : Orac := addM 42 (fun nb vs H => match nb, vs, H with
  | 0, [.one (.int .i64 a), .one (.int .i64 b)], [] => some (true, bl (decide (a < b)), [])
  | _, _, _ => none) O10
theorem sO11 : Sound prog gl O11 := add_ok (D := DN) sO10 sC1 mo (fun nb vs H v H' h => by
  split at h
  · rename_i a b
    obtain ⟨h1, h2⟩ : bl (decide (a < b)) = v ∧ [] = H' := by simpa using h
    subst h1 h2
    exact ⟨1, cl_eq a b⟩
  · cases h)
abbrev pIs : List Bool := [true, false]
abbrev rIs : List Bool := [true, false, false, true, false]
abbrev pIs2 : List Bool := pIs ++ (false :: rIs)
abbrev hIs (a b i : Int) : En := [(6, none, i64 i), (0, none, .one (.os 0)), (1, none, i64 a), (2, none, i64 b)]
abbrev bIs (n : Nat) (B : Nat → Nat → Int) (J : Nat → Nat → PS) : Heap := [(0, .rows 3 1 n (rj 1 B J))]
noncomputable abbrev yIs (fl : Nat) (p : List Bool) : En → Heap → (Exit → En → Heap → Option (PV × Heap)) → Option (PV × Heap) := bodyAt prog gl O11 DS f36 3 1 fl p
noncomputable abbrev kIs (fl : Nat) := kAt prog gl O11 DS f36 3 1 fl pIs
noncomputable def kIs2 (fl mm : Nat) (a b i : Int) (H : Heap) : Exit → En → Heap → Option (PV × Heap) := kontAt prog gl O11 DS (liveF f36) [] (1 + nOf f36 3 + 1) 1 (nOf f36 3) fl rIs (codeAt (pIs ++ [false]) (bodyOf f36)) (kRound (yIs fl pIs) (kIs fl) mm (hIs a b i) H)
theorem is_pre (fl n : Nat) (B : Nat → Nat → Int) (J : Nat → Nat → PS) (a b : Int) : callF prog gl DS fl O11 1 36 [.one (.os 0), i64 a, i64 b] (bIs n B J) = (rounds (yIs fl pIs) (kIs fl) fl ([((6 : Nat), none, i64 ((W (a + (1 : Int))))), ((0 : Nat), none, PV.one (PS.os (0 : Nat))), ((1 : Nat), none, i64 (a)), ((2 : Nat), none, i64 (b))]) ([((0 : Nat), OB.rows (3 : Nat) (1 : Nat) n (rj (1 : Nat) B J))])) := by kernel_rfl
theorem is_st (fl mm n : Nat) (B : Nat → Nat → Int) (J : Nat → Nat → PS) (a b i : Int) : rounds (yIs fl pIs) (kIs fl) (mm + 1) (hIs a b i) (bIs n B J) = (if (decide (i < b)) = true then (rounds (yIs fl pIs2) (kIs2 fl mm a b i (bIs n B J)) fl ([((7 : Nat), none, i64 (i)), ((6 : Nat), none, i64 (i)), ((0 : Nat), none, PV.one (PS.os (0 : Nat))), ((1 : Nat), none, i64 (a)), ((2 : Nat), none, i64 (b))]) ([((0 : Nat), OB.rows (3 : Nat) (1 : Nat) n (rj (1 : Nat) B J))])) else (some ((PV.tup [], [((0 : Nat), OB.rows (3 : Nat) (1 : Nat) n (rj (1 : Nat) B J))])))) := by kernel_rfl
theorem is2_st (fl mm m1 n : Nat) (B B0 : Nat → Nat → Int) (J J0 : Nat → Nat → PS) (a b i j : Int) : rounds (yIs fl pIs2) (kIs2 fl mm a b i (bIs n B0 J0)) (m1 + 1) ((7, none, i64 j) :: hIs a b i) (bIs n B J) = (chk (decide (j > a)) (decide ((0 : Int) ≤ j) && decide (j < (↑n : Int))) (chk (decide (j > a)) (decide (j.toNat < n) && true) (chk (decide (j > a)) (decide ((0 : Int) ≤ W (j - (1 : Int))) && decide (W (j - (1 : Int)) < (↑n : Int))) (chk (decide (j > a)) (decide ((W (j - (1 : Int))).toNat < n) && true) (if (decide (j > a)) = true then (if (bif decide (j > a) then decide (B j.toNat (0 : Nat) < B (W (j - (1 : Int))).toNat (0 : Nat)) else false) = true then (chk true (decide ((0 : Int) ≤ W (j - (1 : Int))) && decide (W (j - (1 : Int)) < (↑n : Int))) (chk true (decide ((W (j - (1 : Int))).toNat < n) && true) (chk true (decide ((0 : Int) ≤ j) && decide (j < (↑n : Int))) (chk true (decide (j.toNat < n) && true) (chk true (decide ((0 : Int) ≤ j) && decide (j < (↑n : Int))) (if (decide (j.toNat < n)) = true then (chk true (decide ((0 : Int) ≤ W (j - (1 : Int))) && decide (W (j - (1 : Int)) < (↑n : Int))) (if (decide ((W (j - (1 : Int))).toNat < n)) = true then (rounds (yIs fl pIs2) (kIs2 fl mm a b i (bIs n B0 J0)) m1 ([((7 : Nat), none, i64 ((W (j - (1 : Int))))), ((6 : Nat), none, i64 (i)), ((0 : Nat), none, PV.one (PS.os (0 : Nat))), ((1 : Nat), none, i64 (a)), ((2 : Nat), none, i64 (b))]) ([((0 : Nat), OB.rows (3 : Nat) (1 : Nat) n (putRow (putRow (rj (1 : Nat) B J) j.toNat (0 : Nat) [PS.int IntKind.i64 (B (W (j - (1 : Int))).toNat (0 : Nat))]) (W (j - (1 : Int))).toNat (0 : Nat) [PS.int IntKind.i64 (B j.toNat (0 : Nat))]))])) else none)) else none)))))) else (rounds (yIs fl pIs) (kIs fl) mm ([((6 : Nat), none, i64 ((W (i + (1 : Int))))), ((0 : Nat), none, PV.one (PS.os (0 : Nat))), ((1 : Nat), none, i64 (a)), ((2 : Nat), none, i64 (b))]) ([((0 : Nat), OB.rows (3 : Nat) (1 : Nat) n (rj (1 : Nat) B J))]))) else (if (bif decide (j > a) then false else false) = true then (chk true (decide ((0 : Int) ≤ W (j - (1 : Int))) && decide (W (j - (1 : Int)) < (↑n : Int))) (chk true (decide ((W (j - (1 : Int))).toNat < n) && true) (chk true (decide ((0 : Int) ≤ j) && decide (j < (↑n : Int))) (chk true (decide (j.toNat < n) && true) (chk true (decide ((0 : Int) ≤ j) && decide (j < (↑n : Int))) (if (decide (j.toNat < n)) = true then (chk true (decide ((0 : Int) ≤ W (j - (1 : Int))) && decide (W (j - (1 : Int)) < (↑n : Int))) (if (decide ((W (j - (1 : Int))).toNat < n)) = true then (rounds (yIs fl pIs2) (kIs2 fl mm a b i (bIs n B0 J0)) m1 ([((7 : Nat), none, i64 ((W (j - (1 : Int))))), ((6 : Nat), none, i64 (i)), ((0 : Nat), none, PV.one (PS.os (0 : Nat))), ((1 : Nat), none, i64 (a)), ((2 : Nat), none, i64 (b))]) ([((0 : Nat), OB.rows (3 : Nat) (1 : Nat) n (putRow (putRow (rj (1 : Nat) B J) j.toNat (0 : Nat) [PS.int IntKind.i64 (B (W (j - (1 : Int))).toNat (0 : Nat))]) (W (j - (1 : Int))).toNat (0 : Nat) [PS.int IntKind.i64 (B j.toNat (0 : Nat))]))])) else none)) else none)))))) else (rounds (yIs fl pIs) (kIs fl) mm ([((6 : Nat), none, i64 ((W (i + (1 : Int))))), ((0 : Nat), none, PV.one (PS.os (0 : Nat))), ((1 : Nat), none, i64 (a)), ((2 : Nat), none, i64 (b))]) ([((0 : Nat), OB.rows (3 : Nat) (1 : Nat) n (rj (1 : Nat) B J))])))))))) := by kernel_rfl
end Go.Proofs.YtgipgiejdbhpkaaDoor.Sh
