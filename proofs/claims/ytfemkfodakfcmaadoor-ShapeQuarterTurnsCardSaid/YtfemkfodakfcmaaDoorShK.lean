import Derived.Test.YtfemkfodakfcmaaDoorShH
namespace Go.Proofs.YtfemkfodakfcmaaDoor.Sh
open Go Go.RowKit Go.Proofs.YtfemkfodakfcmaaDoor.Ev Go.Proofs.Tryd
set_option maxRecDepth 100000
/-! shapes, none turned -/
abbrev pShp : List Bool := [true, true, false, true, false]
abbrev hSh0 (n : Nat) (row : Nat → Nat → PS) (i : Int) : En := [(6, none, i64 i), (5, none, .one .nils), (4, none, .one .nils), (0, none, .one (.view n 12 row)), (1, none, bl false)]
abbrev hShp (n : Nat) (row : Nat → Nat → PS) (i : Int) : En := [(6, none, i64 i), (5, none, .one (.os 86)), (4, none, .one .nils), (0, none, .one (.view n 12 row)), (1, none, bl false)]
theorem shp_pre (fl n : Nat) (row : Nat → Nat → PS) : callF prog gl noD fl Oc 0 14 [.one (.view n 12 row), bl false] [] = (rounds (bodyAt prog gl Oc noD f14 2 0 fl pShp) (kAt prog gl Oc noD f14 2 0 fl pShp) fl ([((6 : Nat), none, i64 ((0 : Int))), ((5 : Nat), none, PV.one PS.nils), ((4 : Nat), none, PV.one PS.nils), ((0 : Nat), none, PV.one (PS.view n (12 : Nat) row)), ((1 : Nat), none, PV.one (PS.bool false))]) ([])) := by kernel_rfl
theorem shp_step0 (fl m n : Nat) (g : Nat → Nat → Int) (sx : Nat → Nat → ByteArray) (jx : Nat → Nat → PS) (K : Exit → En → Heap → Option (PV × Heap)) : rounds (bodyAt prog gl Oc noD f14 2 0 fl pShp) K (m + 1) (hSh0 n (rwj g sx jx) 0) [] = (if (bif decide ((0 : Int) < ↑n) then true else false) = true then (chk true (true && decide ((0 : Int) < ↑n)) (if (q_within (g (0 : Nat) (2 : Nat)) (0 : Int) (7 : Int) == (6 : Int)) = true then (rounds (bodyAt prog gl Oc noD f14 2 0 fl pShp) K m ([((6 : Nat), none, i64 ((1 : Int))), ((5 : Nat), none, PV.one (PS.os (86 : Nat))), ((4 : Nat), none, PV.one PS.nils), ((0 : Nat), none, PV.one (PS.view n (12 : Nat) (rwj g sx jx))), ((1 : Nat), none, PV.one (PS.bool false))]) ([((86 : Nat), OB.rows (40 : Nat) (12 : Nat) (1 : Nat) (appRow (0 : Nat) (fun _ _ ↦ PS.nilp) (litRow (12 : Nat) [PS.int IntKind.i64 (1 : Int), PS.int IntKind.i64 (0 : Int), PS.int IntKind.i64 (q_within (g (0 : Nat) (2 : Nat)) (0 : Int) (7 : Int)), PS.int IntKind.i64 (q_within (g (0 : Nat) (3 : Nat)) (-2000 : Int) (2000 : Int)), PS.int IntKind.i64 (q_within (g (0 : Nat) (4 : Nat)) (-2000 : Int) (2000 : Int)), PS.int IntKind.i64 (q_within (g (0 : Nat) (5 : Nat)) (0 : Int) (1500 : Int)), PS.int IntKind.i64 (q_within (g (0 : Nat) (6 : Nat)) (0 : Int) (1500 : Int)), PS.int IntKind.i64 (0 : Int), PS.int IntKind.i64 (q_within (g (0 : Nat) (8 : Nat)) (0 : Int) (11 : Int)), PS.int IntKind.i64 (q_within (g (0 : Nat) (9 : Nat)) (0 : Int) (11 : Int)), PS.str (sx (0 : Nat) (10 : Nat)), PS.str { data := { toList := [] } }])))])) else (rounds (bodyAt prog gl Oc noD f14 2 0 fl pShp) K m ([((6 : Nat), none, i64 ((1 : Int))), ((5 : Nat), none, PV.one (PS.os (86 : Nat))), ((4 : Nat), none, PV.one PS.nils), ((0 : Nat), none, PV.one (PS.view n (12 : Nat) (rwj g sx jx))), ((1 : Nat), none, PV.one (PS.bool false))]) ([((86 : Nat), OB.rows (40 : Nat) (12 : Nat) (1 : Nat) (appRow (0 : Nat) (fun _ _ ↦ PS.nilp) (litRow (12 : Nat) [PS.int IntKind.i64 (1 : Int), PS.int IntKind.i64 (0 : Int), PS.int IntKind.i64 (q_within (g (0 : Nat) (2 : Nat)) (0 : Int) (7 : Int)), PS.int IntKind.i64 (q_within (g (0 : Nat) (3 : Nat)) (-2000 : Int) (2000 : Int)), PS.int IntKind.i64 (q_within (g (0 : Nat) (4 : Nat)) (-2000 : Int) (2000 : Int)), PS.int IntKind.i64 (q_within (g (0 : Nat) (5 : Nat)) (0 : Int) (1500 : Int)), PS.int IntKind.i64 (q_within (g (0 : Nat) (6 : Nat)) (0 : Int) (1500 : Int)), PS.int IntKind.i64 (0 : Int), PS.int IntKind.i64 (0 : Int), PS.int IntKind.i64 (0 : Int), PS.str (sx (0 : Nat) (10 : Nat)), PS.str { data := { toList := [] } }])))])))) else (K (Exit.exit (0 : Nat)) ([((6 : Nat), none, i64 ((0 : Int))), ((5 : Nat), none, PV.one PS.nils), ((4 : Nat), none, PV.one PS.nils), ((0 : Nat), none, PV.one (PS.view n (12 : Nat) (rwj g sx jx))), ((1 : Nat), none, PV.one (PS.bool false))]) ([]))) := by kernel_rfl
theorem shp_step (fl m n q : Nat) (g g' : Nat → Nat → Int) (sx sx' : Nat → Nat → ByteArray) (jx jx' : Nat → Nat → PS) (i : Int) (K : Exit → En → Heap → Option (PV × Heap)) : rounds (bodyAt prog gl Oc noD f14 2 0 fl pShp) K (m + 1) (hShp n (rwj g sx jx) i) [(86, .rows 40 12 q (rwj g' sx' jx'))] = (if (bif decide (i < ↑n) then decide (i < (10 : Int)) else false) = true then (chk true (decide ((0 : Int) ≤ i) && decide (i < ↑n)) (if (bif decide (i > (0 : Int)) then (g i.toNat (1 : Nat)).tmod (3 : Int) == (0 : Int) else false) = true then (if (true && (q_small (1000000000 : Nat) (W (i - (1 : Int))) && decide ((0 : Int) ≤ W (i - (1 : Int))))) = true then (chk true (decide ((0 : Int) ≤ q_within (W ((g i.toNat (1 : Nat)).tdiv (3 : Int))) (0 : Int) (W (i - (1 : Int)))) && decide (q_within (W ((g i.toNat (1 : Nat)).tdiv (3 : Int))) (0 : Int) (W (i - (1 : Int))) < ↑q)) (chk true (decide ((q_within (W ((g i.toNat (1 : Nat)).tdiv (3 : Int))) (0 : Int) (W (i - (1 : Int)))).toNat < q) && true) (if (g' (q_within (W ((g i.toNat (1 : Nat)).tdiv (3 : Int))) (0 : Int) (W (i - (1 : Int)))).toNat (2 : Nat) == (5 : Int)) = true then (if (q_within (g i.toNat (2 : Nat)) (0 : Int) (7 : Int) == (6 : Int)) = true then (if (true && (decide (q + (1 : Nat) ≤ (9223372036854775807 : Nat)) && decide ((q + (1 : Nat)) * (112 : Nat) ≤ (140737488355328 : Nat)))) = true then (rounds (bodyAt prog gl Oc noD f14 2 0 fl pShp) K m ([((6 : Nat), none, i64 ((W (i + (1 : Int))))), ((5 : Nat), none, PV.one (PS.os (86 : Nat))), ((4 : Nat), none, PV.one PS.nils), ((0 : Nat), none, PV.one (PS.view n (12 : Nat) (rwj g sx jx))), ((1 : Nat), none, PV.one (PS.bool false))]) ([((86 : Nat), OB.rows (40 : Nat) (12 : Nat) (q + (1 : Nat)) (appRow q (rwj g' sx' jx') (litRow (12 : Nat) [PS.int IntKind.i64 (W (i + (1 : Int))), PS.int IntKind.i64 (W (q_within (W ((g i.toNat (1 : Nat)).tdiv (3 : Int))) (0 : Int) (W (i - (1 : Int))) + (1 : Int))), PS.int IntKind.i64 (q_within (g i.toNat (2 : Nat)) (0 : Int) (7 : Int)), PS.int IntKind.i64 (q_within (g i.toNat (3 : Nat)) (-2000 : Int) (2000 : Int)), PS.int IntKind.i64 (q_within (g i.toNat (4 : Nat)) (-2000 : Int) (2000 : Int)), PS.int IntKind.i64 (q_within (g i.toNat (5 : Nat)) (0 : Int) (1500 : Int)), PS.int IntKind.i64 (q_within (g i.toNat (6 : Nat)) (0 : Int) (1500 : Int)), PS.int IntKind.i64 (0 : Int), PS.int IntKind.i64 (q_within (g i.toNat (8 : Nat)) (0 : Int) (11 : Int)), PS.int IntKind.i64 (q_within (g i.toNat (9 : Nat)) (0 : Int) (11 : Int)), PS.str (sx i.toNat (10 : Nat)), PS.str { data := { toList := [] } }])))])) else none) else (if (true && (decide (q + (1 : Nat) ≤ (9223372036854775807 : Nat)) && decide ((q + (1 : Nat)) * (112 : Nat) ≤ (140737488355328 : Nat)))) = true then (rounds (bodyAt prog gl Oc noD f14 2 0 fl pShp) K m ([((6 : Nat), none, i64 ((W (i + (1 : Int))))), ((5 : Nat), none, PV.one (PS.os (86 : Nat))), ((4 : Nat), none, PV.one PS.nils), ((0 : Nat), none, PV.one (PS.view n (12 : Nat) (rwj g sx jx))), ((1 : Nat), none, PV.one (PS.bool false))]) ([((86 : Nat), OB.rows (40 : Nat) (12 : Nat) (q + (1 : Nat)) (appRow q (rwj g' sx' jx') (litRow (12 : Nat) [PS.int IntKind.i64 (W (i + (1 : Int))), PS.int IntKind.i64 (W (q_within (W ((g i.toNat (1 : Nat)).tdiv (3 : Int))) (0 : Int) (W (i - (1 : Int))) + (1 : Int))), PS.int IntKind.i64 (q_within (g i.toNat (2 : Nat)) (0 : Int) (7 : Int)), PS.int IntKind.i64 (q_within (g i.toNat (3 : Nat)) (-2000 : Int) (2000 : Int)), PS.int IntKind.i64 (q_within (g i.toNat (4 : Nat)) (-2000 : Int) (2000 : Int)), PS.int IntKind.i64 (q_within (g i.toNat (5 : Nat)) (0 : Int) (1500 : Int)), PS.int IntKind.i64 (q_within (g i.toNat (6 : Nat)) (0 : Int) (1500 : Int)), PS.int IntKind.i64 (0 : Int), PS.int IntKind.i64 (0 : Int), PS.int IntKind.i64 (0 : Int), PS.str (sx i.toNat (10 : Nat)), PS.str { data := { toList := [] } }])))])) else none)) else (if (q_within (g i.toNat (2 : Nat)) (0 : Int) (7 : Int) == (6 : Int)) = true then (if (true && (decide (q + (1 : Nat) ≤ (9223372036854775807 : Nat)) && decide ((q + (1 : Nat)) * (112 : Nat) ≤ (140737488355328 : Nat)))) = true then (rounds (bodyAt prog gl Oc noD f14 2 0 fl pShp) K m ([((6 : Nat), none, i64 ((W (i + (1 : Int))))), ((5 : Nat), none, PV.one (PS.os (86 : Nat))), ((4 : Nat), none, PV.one PS.nils), ((0 : Nat), none, PV.one (PS.view n (12 : Nat) (rwj g sx jx))), ((1 : Nat), none, PV.one (PS.bool false))]) ([((86 : Nat), OB.rows (40 : Nat) (12 : Nat) (q + (1 : Nat)) (appRow q (rwj g' sx' jx') (litRow (12 : Nat) [PS.int IntKind.i64 (W (i + (1 : Int))), PS.int IntKind.i64 (0 : Int), PS.int IntKind.i64 (q_within (g i.toNat (2 : Nat)) (0 : Int) (7 : Int)), PS.int IntKind.i64 (q_within (g i.toNat (3 : Nat)) (-2000 : Int) (2000 : Int)), PS.int IntKind.i64 (q_within (g i.toNat (4 : Nat)) (-2000 : Int) (2000 : Int)), PS.int IntKind.i64 (q_within (g i.toNat (5 : Nat)) (0 : Int) (1500 : Int)), PS.int IntKind.i64 (q_within (g i.toNat (6 : Nat)) (0 : Int) (1500 : Int)), PS.int IntKind.i64 (0 : Int), PS.int IntKind.i64 (q_within (g i.toNat (8 : Nat)) (0 : Int) (11 : Int)), PS.int IntKind.i64 (q_within (g i.toNat (9 : Nat)) (0 : Int) (11 : Int)), PS.str (sx i.toNat (10 : Nat)), PS.str { data := { toList := [] } }])))])) else none) else (if (true && (decide (q + (1 : Nat) ≤ (9223372036854775807 : Nat)) && decide ((q + (1 : Nat)) * (112 : Nat) ≤ (140737488355328 : Nat)))) = true then (rounds (bodyAt prog gl Oc noD f14 2 0 fl pShp) K m ([((6 : Nat), none, i64 ((W (i + (1 : Int))))), ((5 : Nat), none, PV.one (PS.os (86 : Nat))), ((4 : Nat), none, PV.one PS.nils), ((0 : Nat), none, PV.one (PS.view n (12 : Nat) (rwj g sx jx))), ((1 : Nat), none, PV.one (PS.bool false))]) ([((86 : Nat), OB.rows (40 : Nat) (12 : Nat) (q + (1 : Nat)) (appRow q (rwj g' sx' jx') (litRow (12 : Nat) [PS.int IntKind.i64 (W (i + (1 : Int))), PS.int IntKind.i64 (0 : Int), PS.int IntKind.i64 (q_within (g i.toNat (2 : Nat)) (0 : Int) (7 : Int)), PS.int IntKind.i64 (q_within (g i.toNat (3 : Nat)) (-2000 : Int) (2000 : Int)), PS.int IntKind.i64 (q_within (g i.toNat (4 : Nat)) (-2000 : Int) (2000 : Int)), PS.int IntKind.i64 (q_within (g i.toNat (5 : Nat)) (0 : Int) (1500 : Int)), PS.int IntKind.i64 (q_within (g i.toNat (6 : Nat)) (0 : Int) (1500 : Int)), PS.int IntKind.i64 (0 : Int), PS.int IntKind.i64 (0 : Int), PS.int IntKind.i64 (0 : Int), PS.str (sx i.toNat (10 : Nat)), PS.str { data := { toList := [] } }])))])) else none))))) else none) else (if (q_within (g i.toNat (2 : Nat)) (0 : Int) (7 : Int) == (6 : Int)) = true then (if (true && (decide (q + (1 : Nat) ≤ (9223372036854775807 : Nat)) && decide ((q + (1 : Nat)) * (112 : Nat) ≤ (140737488355328 : Nat)))) = true then (rounds (bodyAt prog gl Oc noD f14 2 0 fl pShp) K m ([((6 : Nat), none, i64 ((W (i + (1 : Int))))), ((5 : Nat), none, PV.one (PS.os (86 : Nat))), ((4 : Nat), none, PV.one PS.nils), ((0 : Nat), none, PV.one (PS.view n (12 : Nat) (rwj g sx jx))), ((1 : Nat), none, PV.one (PS.bool false))]) ([((86 : Nat), OB.rows (40 : Nat) (12 : Nat) (q + (1 : Nat)) (appRow q (rwj g' sx' jx') (litRow (12 : Nat) [PS.int IntKind.i64 (W (i + (1 : Int))), PS.int IntKind.i64 (0 : Int), PS.int IntKind.i64 (q_within (g i.toNat (2 : Nat)) (0 : Int) (7 : Int)), PS.int IntKind.i64 (q_within (g i.toNat (3 : Nat)) (-2000 : Int) (2000 : Int)), PS.int IntKind.i64 (q_within (g i.toNat (4 : Nat)) (-2000 : Int) (2000 : Int)), PS.int IntKind.i64 (q_within (g i.toNat (5 : Nat)) (0 : Int) (1500 : Int)), PS.int IntKind.i64 (q_within (g i.toNat (6 : Nat)) (0 : Int) (1500 : Int)), PS.int IntKind.i64 (0 : Int), PS.int IntKind.i64 (q_within (g i.toNat (8 : Nat)) (0 : Int) (11 : Int)), PS.int IntKind.i64 (q_within (g i.toNat (9 : Nat)) (0 : Int) (11 : Int)), PS.str (sx i.toNat (10 : Nat)), PS.str { data := { toList := [] } }])))])) else none) else (if (true && (decide (q + (1 : Nat) ≤ (9223372036854775807 : Nat)) && decide ((q + (1 : Nat)) * (112 : Nat) ≤ (140737488355328 : Nat)))) = true then (rounds (bodyAt prog gl Oc noD f14 2 0 fl pShp) K m ([((6 : Nat), none, i64 ((W (i + (1 : Int))))), ((5 : Nat), none, PV.one (PS.os (86 : Nat))), ((4 : Nat), none, PV.one PS.nils), ((0 : Nat), none, PV.one (PS.view n (12 : Nat) (rwj g sx jx))), ((1 : Nat), none, PV.one (PS.bool false))]) ([((86 : Nat), OB.rows (40 : Nat) (12 : Nat) (q + (1 : Nat)) (appRow q (rwj g' sx' jx') (litRow (12 : Nat) [PS.int IntKind.i64 (W (i + (1 : Int))), PS.int IntKind.i64 (0 : Int), PS.int IntKind.i64 (q_within (g i.toNat (2 : Nat)) (0 : Int) (7 : Int)), PS.int IntKind.i64 (q_within (g i.toNat (3 : Nat)) (-2000 : Int) (2000 : Int)), PS.int IntKind.i64 (q_within (g i.toNat (4 : Nat)) (-2000 : Int) (2000 : Int)), PS.int IntKind.i64 (q_within (g i.toNat (5 : Nat)) (0 : Int) (1500 : Int)), PS.int IntKind.i64 (q_within (g i.toNat (6 : Nat)) (0 : Int) (1500 : Int)), PS.int IntKind.i64 (0 : Int), PS.int IntKind.i64 (0 : Int), PS.int IntKind.i64 (0 : Int), PS.str (sx i.toNat (10 : Nat)), PS.str { data := { toList := [] } }])))])) else none)))) else (K (Exit.exit (0 : Nat)) ([((6 : Nat), none, i64 (i)), ((5 : Nat), none, PV.one (PS.os (86 : Nat))), ((4 : Nat), none, PV.one PS.nils), ((0 : Nat), none, PV.one (PS.view n (12 : Nat) (rwj g sx jx))), ((1 : Nat), none, PV.one (PS.bool false))]) ([((86 : Nat), OB.rows (40 : Nat) (12 : Nat) q (rwj g' sx' jx'))]))) := by kernel_rfl
abbrev emp : ByteArray := { data := { toList := [] } }
theorem app_rwj (q : Nat) (g' : Nat → Nat → Int) (sx' : Nat → Nat → ByteArray) (jx' : Nat → Nat → PS) (c0 c1 c2 c3 c4 c5 c6 c7 c8 c9 : Int) (s1 s2 : ByteArray) : appRow q (rwj g' sx' jx') (litRow 12 [.int .i64 c0, .int .i64 c1, .int .i64 c2, .int .i64 c3, .int .i64 c4, .int .i64 c5, .int .i64 c6, .int .i64 c7, .int .i64 c8, .int .i64 c9, .str s1, .str s2]) = rwj (fun i j => if i < q then g' i j else cellsOf10 c0 c1 c2 c3 c4 c5 c6 c7 c8 c9 j) (fun i j => if i < q then sx' i j else if j = 10 then s1 else s2) (fun i j => if i < q then jx' i j else .nilp) := by
  funext i j
  unfold appRow
  by_cases hi : i < q
  · rw [if_pos hi]
    unfold rwj
    simp only [hi, if_true]
  · rw [if_neg hi]
    unfold rwj litRow
    simp only [hi, if_false]
    rw [if_pos (by rfl)]
    rcases Nat.lt_or_ge j 12 with hj | hj
    · rcases (by omega : j = 0 ∨ j = 1 ∨ j = 2 ∨ j = 3 ∨ j = 4 ∨ j = 5 ∨ j = 6 ∨ j = 7 ∨ j = 8 ∨ j = 9 ∨ j = 10 ∨ j = 11) with rfl | rfl | rfl | rfl | rfl | rfl | rfl | rfl | rfl | rfl | rfl | rfl <;> rfl
    · rw [if_neg (by omega), if_neg (by omega), List.getD_eq_getElem?_getD, List.getElem?_eq_none (by simp; omega)]
      rfl
theorem app0_rwj (c0 c1 c2 c3 c4 c5 c6 c7 c8 c9 : Int) (s1 s2 : ByteArray) : appRow 0 (fun _ _ => .nilp) (litRow 12 [.int .i64 c0, .int .i64 c1, .int .i64 c2, .int .i64 c3, .int .i64 c4, .int .i64 c5, .int .i64 c6, .int .i64 c7, .int .i64 c8, .int .i64 c9, .str s1, .str s2]) = rwj (fun _ j => cellsOf10 c0 c1 c2 c3 c4 c5 c6 c7 c8 c9 j) (fun _ j => if j = 10 then s1 else s2) (fun _ _ => .nilp) :=
  (show appRow 0 (fun _ _ => .nilp) _ = appRow 0 (rwj (fun _ _ => 0) (fun _ _ => emp) (fun _ _ => .nilp)) _ from rfl).trans (app_rwj 0 _ _ _ c0 c1 c2 c3 c4 c5 c6 c7 c8 c9 s1 s2)
/-- The group that a drawn shape is put into. -/
def q_par (g : Nat → Nat → Int) (i : Nat) : Int := if (i : Int) > 0 ∧ (g i 1).tmod 3 = 0 then (if q_within (g (q_within (W ((g i 1).tdiv 3)) 0 ((i : Int) - 1)).toNat 2) 0 7 = 5 then q_within (W ((g i 1).tdiv 3)) 0 ((i : Int) - 1) + 1 else 0) else 0
def q_shG (g : Nat → Nat → Int) (i : Nat) : Nat → Int := cellsOf10 ((i : Int) + 1) (q_par g i) (q_within (g i 2) 0 7) (q_within (g i 3) (-2000) 2000) (q_within (g i 4) (-2000) 2000) (q_within (g i 5) 0 1500) (q_within (g i 6) 0 1500) 0 (if q_within (g i 2) 0 7 = 6 then q_within (g i 8) 0 11 else 0) (if q_within (g i 2) 0 7 = 6 then q_within (g i 9) 0 11 else 0)
theorem shG_eq (g : Nat → Nat → Int) (i : Nat) : q_shG g i = cellsOf10 ((i : Int) + 1) (q_par g i) (q_within (g i 2) 0 7) (q_within (g i 3) (-2000) 2000) (q_within (g i 4) (-2000) 2000) (q_within (g i 5) 0 1500) (q_within (g i 6) 0 1500) 0 (if q_within (g i 2) 0 7 = 6 then q_within (g i 8) 0 11 else 0) (if q_within (g i 2) 0 7 = 6 then q_within (g i 9) 0 11 else 0) := rfl
def Agr (N : Nat) (g : Nat → Nat → Int) (sx : Nat → Nat → ByteArray) (g' : Nat → Nat → Int) (sx' : Nat → Nat → ByteArray) : Prop := ∀ i, i < N → (∀ j, g' i j = q_shG g i j) ∧ sx' i 10 = sx i 10 ∧ sx' i 11 = emp
theorem agr_up {N : Nat} {g : Nat → Nat → Int} {sx : Nat → Nat → ByteArray} {g' : Nat → Nat → Int} {sx' : Nat → Nat → ByteArray} {c : Nat → Int} (h : Agr N g sx g' sx') (hc : c = q_shG g N) : Agr (N + 1) g sx (fun i j => if i < N then g' i j else c j) (fun i j => if i < N then sx' i j else if j = 10 then sx N 10 else emp) := by
  intro i hi
  by_cases hlt : i < N
  · simp only [hlt, if_true]
    exact h i hlt
  · obtain rfl : i = N := by omega
    subst hc
    simp
theorem within_bd {v lo hi : Int} (h : lo ≤ hi) : lo ≤ q_within v lo hi ∧ q_within v lo hi ≤ hi := by
  unfold q_within
  have h2 := Int.emod_nonneg v (b := hi - lo + 1) (by omega)
  have h3 := Int.emod_lt_of_pos v (b := hi - lo + 1) (by omega)
  omega
theorem shp_loop (fl n N : Nat) (hN : N ≤ n) (hN10 : N ≤ 10) (hN2 : N = n ∨ N = 10) (g : Nat → Nat → Int) (sx : Nat → Nat → ByteArray) (jx : Nat → Nat → PS) : ∀ (r i m : Nat) (g' : Nat → Nat → Int) (sx' : Nat → Nat → ByteArray) (jx' : Nat → Nat → PS), i + r = N → 1 ≤ i → r < m → Agr i g sx g' sx' →
    ∃ g'' sx'' jx'', rounds (bodyAt prog gl Oc noD f14 2 0 fl pShp) (kAt prog gl Oc noD f14 2 0 fl pShp) m (hShp n (rwj g sx jx) i) [(86, .rows 40 12 i (rwj g' sx' jx'))] = some (.one (.os 0), [(0, .rows 40 12 N (rwj g'' sx'' jx''))]) ∧ Agr N g sx g'' sx'' := by
  intro r
  induction r with
  | zero =>
    intro i m g' sx' jx' hi h1 hm hA
    obtain ⟨m, rfl⟩ : ∃ m', m = m' + 1 := ⟨m - 1, by omega⟩
    obtain rfl : i = N := by omega
    refine ⟨g', sx', jx', ?_, hA⟩
    refine (shp_step fl m n i g g' sx sx' jx jx' i _).trans ((if_neg ?_).trans ?_)
    · rcases hN2 with e | e
      · subst e; simp
      · subst e; simp
    · kernel_rfl
  | succ r ih =>
    intro i m g' sx' jx' hi h1 hm hA
    obtain ⟨m, rfl⟩ : ∃ m', m = m' + 1 := ⟨m - 1, by omega⟩
    have hW1 : W ((i : Int) + 1) = ((i + 1 : Nat) : Int) := by rw [W_id (by omega) (by omega)]; omega
    have hWm : W ((i : Int) - 1) = (i : Int) - 1 := W_id (by omega) (by omega)
    have hroom : (true && (decide (i + 1 ≤ 9223372036854775807) && decide ((i + 1) * 112 ≤ 140737488355328))) = true := by simp <;> omega
    have go := shp_step fl m n i g g' sx sx' jx jx' i (kAt prog gl Oc noD f14 2 0 fl pShp)
    rw [if_pos (by have : (i : Int) < n ∧ (i : Int) < 10 := by omega
                   simp [this.1, this.2]), chk_true (by simp <;> omega), Int.toNat_natCast, hWm] at go
    have key : ∀ (c1 : Int), c1 = q_par g i → (if (q_within (g i 2) 0 7 == 6) = true then (if (true && (decide (i + 1 ≤ 9223372036854775807) && decide ((i + 1) * 112 ≤ 140737488355328))) = true then rounds (bodyAt prog gl Oc noD f14 2 0 fl pShp) (kAt prog gl Oc noD f14 2 0 fl pShp) m (hShp n (rwj g sx jx) (W ((i : Int) + 1))) [(86, .rows 40 12 (i + 1) (appRow i (rwj g' sx' jx') (litRow 12 [.int .i64 (W ((i : Int) + 1)), .int .i64 c1, .int .i64 (q_within (g i 2) 0 7), .int .i64 (q_within (g i 3) (-2000) 2000), .int .i64 (q_within (g i 4) (-2000) 2000), .int .i64 (q_within (g i 5) 0 1500), .int .i64 (q_within (g i 6) 0 1500), .int .i64 0, .int .i64 (q_within (g i 8) 0 11), .int .i64 (q_within (g i 9) 0 11), .str (sx i 10), .str emp])))] else none) else (if (true && (decide (i + 1 ≤ 9223372036854775807) && decide ((i + 1) * 112 ≤ 140737488355328))) = true then rounds (bodyAt prog gl Oc noD f14 2 0 fl pShp) (kAt prog gl Oc noD f14 2 0 fl pShp) m (hShp n (rwj g sx jx) (W ((i : Int) + 1))) [(86, .rows 40 12 (i + 1) (appRow i (rwj g' sx' jx') (litRow 12 [.int .i64 (W ((i : Int) + 1)), .int .i64 c1, .int .i64 (q_within (g i 2) 0 7), .int .i64 (q_within (g i 3) (-2000) 2000), .int .i64 (q_within (g i 4) (-2000) 2000), .int .i64 (q_within (g i 5) 0 1500), .int .i64 (q_within (g i 6) 0 1500), .int .i64 0, .int .i64 0, .int .i64 0, .str (sx i 10), .str emp])))] else none)) = rounds (bodyAt prog gl Oc noD f14 2 0 fl pShp) (kAt prog gl Oc noD f14 2 0 fl pShp) (m + 1) (hShp n (rwj g sx jx) i) [(86, .rows 40 12 i (rwj g' sx' jx'))] → ∃ g'' sx'' jx'', rounds (bodyAt prog gl Oc noD f14 2 0 fl pShp) (kAt prog gl Oc noD f14 2 0 fl pShp) (m + 1) (hShp n (rwj g sx jx) i) [(86, .rows 40 12 i (rwj g' sx' jx'))] = some (.one (.os 0), [(0, .rows 40 12 N (rwj g'' sx'' jx''))]) ∧ Agr N g sx g'' sx'' := by
      intro c1 hc1 hk
      rw [hroom, hW1, app_rwj, app_rwj] at hk
      by_cases h6 : q_within (g i 2) 0 7 = 6
      · rw [if_pos (by simpa using h6), if_pos rfl] at hk
        rw [← hk]
        exact ih (i + 1) m _ _ _ (by omega) (by omega) (by omega) (agr_up hA (by rw [shG_eq, hc1, if_pos h6, if_pos h6]; rfl))
      · rw [if_neg (by simpa using h6), if_pos rfl] at hk
        rw [← hk]
        exact ih (i + 1) m _ _ _ (by omega) (by omega) (by omega) (agr_up hA (by rw [shG_eq, hc1, if_neg h6, if_neg h6]; rfl))
    by_cases hp : (i : Int) > 0 ∧ (g i 1).tmod 3 = 0
    · have bd := within_bd (v := W ((g i 1).tdiv 3)) (lo := 0) (hi := (i : Int) - 1) (by omega)
      rw [if_pos (by simp [hp.2] <;> omega), if_pos (by rw [(small_iff.2 (by omega) : q_small 1000000000 ((i : Int) - 1) = true)]; simp <;> omega), chk_true (by simp <;> omega), chk_true (by simp <;> omega)] at go
      have hread := (hA (q_within (W ((g i 1).tdiv 3)) 0 ((i : Int) - 1)).toNat (by omega)).1 2
      have hread' : g' (q_within (W ((g i 1).tdiv 3)) 0 ((i : Int) - 1)).toNat 2 = q_within (g (q_within (W ((g i 1).tdiv 3)) 0 ((i : Int) - 1)).toNat 2) 0 7 := hread
      by_cases h5 : q_within (g (q_within (W ((g i 1).tdiv 3)) 0 ((i : Int) - 1)).toNat 2) 0 7 = 5
      · rw [if_pos (by rw [hread']; simpa using h5), W_id (n := q_within (W ((g i 1).tdiv 3)) 0 ((i : Int) - 1) + 1) (by omega) (by omega)] at go
        exact key _ (by unfold q_par; rw [if_pos hp, if_pos h5]) go.symm
      · rw [if_neg (by rw [hread']; simpa using h5)] at go
        exact key 0 (by unfold q_par; rw [if_pos hp, if_neg h5]) go.symm
    · rw [if_neg (by
        intro hh
        apply hp
        rw [show decide ((i : Int) > 0) = true from by simp <;> omega] at hh
        exact ⟨by omega, by simpa using hh⟩)] at go
      exact key 0 (by unfold q_par; rw [if_neg hp]) go.symm
/-- How many shapes are drawn. -/
def q_ten (n : Nat) : Nat := if n ≤ 10 then n else 10
def q_shR (row : Nat → Nat → PS) : Nat → Nat → PS := rwj (fun i j => q_shG (fun i j => q_gi (row i j)) i j) (fun i j => if j = 10 then q_gs (row i 10) else emp) (fun _ _ => .nilp)
theorem shp_eq0 (row : Nat → Nat → PS) (h : q_isRw row) : callF prog gl noD 1 Oc 0 14 [.one (.view 0 12 row), bl false] [] = some (.one .nils, []) := by
  obtain ⟨g, sx, jx, rfl⟩ := h
  refine (shp_pre 1 0 _).trans ?_
  refine (shp_step0 1 0 0 g sx jx _).trans ?_
  refine (if_neg (by simp)).trans ?_
  kernel_rfl
theorem shG_congr {g h : Nat → Nat → Int} (e : ∀ i j, j < 10 → g i j = h i j) (i : Nat) : q_shG g i = q_shG h i := by
  unfold q_shG q_par
  simp only [e _ 1 (by omega), e _ 2 (by omega), e _ 3 (by omega), e _ 4 (by omega), e _ 5 (by omega), e _ 6 (by omega), e _ 8 (by omega), e _ 9 (by omega)]
theorem shp_eq (q : Nat) (row : Nat → Nat → PS) (h : q_isRw row) : ∃ r', callF prog gl noD 12 Oc 0 14 [.one (.view (q + 1) 12 row), bl false] [] = some (.one (.os 0), [(0, .rows 40 12 (q_ten (q + 1)) r')]) ∧ ∀ i j, i < q_ten (q + 1) → j < 12 → r' i j = q_shR row i j := by
  obtain ⟨g, sx, jx, rfl⟩ := h
  have h10 : q_ten (q + 1) ≤ 10 ∧ q_ten (q + 1) ≤ q + 1 ∧ 1 ≤ q_ten (q + 1) ∧ (q_ten (q + 1) = q + 1 ∨ q_ten (q + 1) = 10) := by unfold q_ten; split <;> omega
  have fin : ∀ g'' sx'' jx'', Agr (q_ten (q + 1)) g sx g'' sx'' → ∀ i j, i < q_ten (q + 1) → j < 12 → rwj g'' sx'' jx'' i j = q_shR (rwj g sx jx) i j := fun g'' sx'' jx'' hA i j hi hj => by
    obtain ⟨a1, a2, a3⟩ := hA i hi
    unfold q_shR
    have e := shG_congr (g := fun i j => q_gi (rwj g sx jx i j)) (h := g) (fun i j hj => gi_rwj g sx jx i j hj) i
    unfold rwj
    by_cases hj1 : j < 10
    · rw [if_pos hj1, if_pos hj1, a1 j]
      show PS.int _ _ = PS.int _ (q_shG (fun i j => q_gi (rwj g sx jx i j)) i j)
      rw [e]
    · rw [if_neg hj1, if_neg hj1, if_pos hj, if_pos hj]
      by_cases hj2 : j = 10
      · subst hj2
        rw [a2]
        rfl
      · obtain rfl : j = 11 := by omega
        rw [a3]
        rfl
  have one : ∀ c8 c9, c8 = (if q_within (g 0 2) 0 7 = 6 then q_within (g 0 8) 0 11 else 0) → c9 = (if q_within (g 0 2) 0 7 = 6 then q_within (g 0 9) 0 11 else 0) → Agr 1 g sx (fun _ j => cellsOf10 1 0 (q_within (g 0 2) 0 7) (q_within (g 0 3) (-2000) 2000) (q_within (g 0 4) (-2000) 2000) (q_within (g 0 5) 0 1500) (q_within (g 0 6) 0 1500) 0 c8 c9 j) (fun _ j => if j = 10 then sx 0 10 else emp) := fun c8 c9 e8 e9 i hi => by
    obtain rfl : i = 0 := by omega
    refine ⟨fun j => ?_, rfl, rfl⟩
    rw [shG_eq, e8, e9, show q_par g 0 = 0 from by unfold q_par; simp]
    rfl
  have goal : ∃ g'' sx'' jx'', callF prog gl noD 12 Oc 0 14 [.one (.view (q + 1) 12 (rwj g sx jx)), bl false] [] = some (.one (.os 0), [(0, .rows 40 12 (q_ten (q + 1)) (rwj g'' sx'' jx''))]) ∧ Agr (q_ten (q + 1)) g sx g'' sx'' := by
    have e1 := (shp_pre 12 (q + 1) (rwj g sx jx)).trans (shp_step0 12 11 (q + 1) g sx jx _)
    rw [if_pos (by simp <;> omega), chk_true (by simp <;> omega)] at e1
    rw [app0_rwj, app0_rwj] at e1
    by_cases h6 : q_within (g 0 2) 0 7 = 6
    · rw [if_pos (by simpa using h6)] at e1
      rw [e1]
      exact shp_loop 12 (q + 1) (q_ten (q + 1)) h10.2.1 h10.1 h10.2.2.2 g sx jx (q_ten (q + 1) - 1) 1 11 _ _ _ (by omega) (by omega) (by omega) (one _ _ (by rw [if_pos h6]) (by rw [if_pos h6]))
    · rw [if_neg (by simpa using h6)] at e1
      rw [e1]
      exact shp_loop 12 (q + 1) (q_ten (q + 1)) h10.2.1 h10.1 h10.2.2.2 g sx jx (q_ten (q + 1) - 1) 1 11 _ _ _ (by omega) (by omega) (by omega) (one _ _ (by rw [if_neg h6]) (by rw [if_neg h6]))
  obtain ⟨g'', sx'', jx'', h1, h2⟩ := goal
  exact ⟨_, h1, fin g'' sx'' jx'' h2⟩
noncomputable def aShp : Nat → List PV → Heap → Option (Bool × PV × Heap)
  | 0, [.one (.view 0 12 row), .one (.bool false)], [] => some (q_dec (q_isRw row), .one .nils, [])
  | 0, [.one (.view (q + 1) 12 row), .one (.bool false)], [] => some (q_dec (q_isRw row), .one (.os 0), [(0, .rows 40 12 (q_ten (q + 1)) (q_shR row))])
  | _, _, _ => none
noncomputable def Oh : Orac := addM 14 aShp Oc
theorem sOh : Sound prog gl Oh := add_ag (D := noD) sOc sOc mo (fun nb vs H v H' h => by
  unfold aShp at h
  split at h
  · rename_i row
    obtain ⟨h1, h2, h3⟩ : q_dec (q_isRw row) = true ∧ .one .nils = v ∧ [] = H' := by simpa using h
    subst h2 h3
    exact ⟨1, _, _, shp_eq0 row (q_dec_iff.1 h1), agV_refl _, .inl rfl⟩
  · rename_i q row
    obtain ⟨h1, h2, h3⟩ : q_dec (q_isRw row) = true ∧ .one (.os 0) = v ∧ [(0, OB.rows 40 12 (q_ten (q + 1)) (q_shR row))] = H' := by simpa using h
    subst h2 h3
    obtain ⟨r', h4, h5⟩ := shp_eq q row (q_dec_iff.1 h1)
    exact ⟨12, _, _, h4, agV_refl _, .inr ⟨0, _, 12, _, r', _, [], rfl, rfl, h5, fun p hp => nomatch hp⟩⟩
  · cases h)
end Go.Proofs.YtfemkfodakfcmaaDoor.Sh
