import Derived.Test.YtobfnncpjkeloaaMsE
namespace Go.Proofs.Ytobfnncpjkeloaa.Sh
open Go Go.RowKit Go.Proofs.Ytobfnncpjkeloaa.Ev Go.Proofs.Try
set_option maxRecDepth 1000000
set_option linter.unusedVariables false
/-! shapes -/
abbrev pShp : List Bool := [true, true, false, true, false]
noncomputable abbrev yShp (fl : Nat) : En → Heap → (Exit → En → Heap → Option (PV × Heap)) → Option (PV × Heap) := bodyAt prog gl O8 noD f9 2 0 fl pShp
noncomputable abbrev kShp (fl : Nat) := kAt prog gl O8 noD f9 2 0 fl pShp
abbrev hShp (n : Nat) (row : Nat → Nat → PS) (s : PS) (tb : Bool) (i : Int) : En := [(6, none, i64 i), (5, none, .one s), (4, none, .one .nils), (0, none, .one (.view n 12 row)), (1, none, bl tb)]
theorem shp_pre (fl n : Nat) (row : Nat → Nat → PS) (tb : Bool) : callF prog gl noD fl O8 0 9 [.one (.view n 12 row), bl tb] [] = (rounds (yShp fl) (kShp fl) fl ([((6 : Nat), none, i64 ((0 : Int))), ((5 : Nat), none, PV.one PS.nils), ((4 : Nat), none, PV.one PS.nils), ((0 : Nat), none, PV.one (PS.view n (12 : Nat) row)), ((1 : Nat), none, PV.one (PS.bool tb))]) ([])) := by kernel_rfl
theorem shp_one (fl mm n : Nat) (g : Nat → Nat → Int) (sx : Nat → Nat → ByteArray) (jx : Nat → Nat → PS) (tb : Bool) : rounds (yShp fl) (kShp fl) (mm + 1) (hShp n (rwj g sx jx) .nils tb 0) [] = (if (bif decide ((0 : Int) < (↑n : Int)) then true else false) = true then (chk true (true && decide ((0 : Int) < (↑n : Int))) (if (tb) = true then (if (q_within (g (0 : Nat) (2 : Nat)) (0 : Int) (7 : Int) == (6 : Int)) = true then (rounds (yShp fl) (kShp fl) mm ([((6 : Nat), none, i64 ((1 : Int))), ((5 : Nat), none, PV.one (PS.os (86 : Nat))), ((4 : Nat), none, PV.one PS.nils), ((0 : Nat), none, PV.one (PS.view n (12 : Nat) (rwj g sx jx))), ((1 : Nat), none, PV.one (PS.bool tb))]) ([((86 : Nat), OB.rows (28 : Nat) (12 : Nat) (1 : Nat) (appRow (0 : Nat) (fun _ _ ↦ PS.nilp) (litRow (12 : Nat) [PS.int IntKind.i64 (1 : Int), PS.int IntKind.i64 (0 : Int), PS.int IntKind.i64 (q_within (g (0 : Nat) (2 : Nat)) (0 : Int) (7 : Int)), PS.int IntKind.i64 (q_within (g (0 : Nat) (3 : Nat)) (-2000 : Int) (2000 : Int)), PS.int IntKind.i64 (q_within (g (0 : Nat) (4 : Nat)) (-2000 : Int) (2000 : Int)), PS.int IntKind.i64 (q_within (g (0 : Nat) (5 : Nat)) (0 : Int) (1500 : Int)), PS.int IntKind.i64 (q_within (g (0 : Nat) (6 : Nat)) (0 : Int) (1500 : Int)), PS.int IntKind.i64 (q_within (g (0 : Nat) (7 : Nat)) (0 : Int) (3599 : Int)), PS.int IntKind.i64 (q_within (g (0 : Nat) (8 : Nat)) (0 : Int) (11 : Int)), PS.int IntKind.i64 (q_within (g (0 : Nat) (9 : Nat)) (0 : Int) (11 : Int)), PS.str (sx (0 : Nat) (10 : Nat)), PS.str { data := { toList := [] } }])))])) else (rounds (yShp fl) (kShp fl) mm ([((6 : Nat), none, i64 ((1 : Int))), ((5 : Nat), none, PV.one (PS.os (86 : Nat))), ((4 : Nat), none, PV.one PS.nils), ((0 : Nat), none, PV.one (PS.view n (12 : Nat) (rwj g sx jx))), ((1 : Nat), none, PV.one (PS.bool tb))]) ([((86 : Nat), OB.rows (28 : Nat) (12 : Nat) (1 : Nat) (appRow (0 : Nat) (fun _ _ ↦ PS.nilp) (litRow (12 : Nat) [PS.int IntKind.i64 (1 : Int), PS.int IntKind.i64 (0 : Int), PS.int IntKind.i64 (q_within (g (0 : Nat) (2 : Nat)) (0 : Int) (7 : Int)), PS.int IntKind.i64 (q_within (g (0 : Nat) (3 : Nat)) (-2000 : Int) (2000 : Int)), PS.int IntKind.i64 (q_within (g (0 : Nat) (4 : Nat)) (-2000 : Int) (2000 : Int)), PS.int IntKind.i64 (q_within (g (0 : Nat) (5 : Nat)) (0 : Int) (1500 : Int)), PS.int IntKind.i64 (q_within (g (0 : Nat) (6 : Nat)) (0 : Int) (1500 : Int)), PS.int IntKind.i64 (q_within (g (0 : Nat) (7 : Nat)) (0 : Int) (3599 : Int)), PS.int IntKind.i64 (0 : Int), PS.int IntKind.i64 (0 : Int), PS.str (sx (0 : Nat) (10 : Nat)), PS.str { data := { toList := [] } }])))]))) else (if (q_within (g (0 : Nat) (2 : Nat)) (0 : Int) (7 : Int) == (6 : Int)) = true then (rounds (yShp fl) (kShp fl) mm ([((6 : Nat), none, i64 ((1 : Int))), ((5 : Nat), none, PV.one (PS.os (86 : Nat))), ((4 : Nat), none, PV.one PS.nils), ((0 : Nat), none, PV.one (PS.view n (12 : Nat) (rwj g sx jx))), ((1 : Nat), none, PV.one (PS.bool tb))]) ([((86 : Nat), OB.rows (28 : Nat) (12 : Nat) (1 : Nat) (appRow (0 : Nat) (fun _ _ ↦ PS.nilp) (litRow (12 : Nat) [PS.int IntKind.i64 (1 : Int), PS.int IntKind.i64 (0 : Int), PS.int IntKind.i64 (q_within (g (0 : Nat) (2 : Nat)) (0 : Int) (7 : Int)), PS.int IntKind.i64 (q_within (g (0 : Nat) (3 : Nat)) (-2000 : Int) (2000 : Int)), PS.int IntKind.i64 (q_within (g (0 : Nat) (4 : Nat)) (-2000 : Int) (2000 : Int)), PS.int IntKind.i64 (q_within (g (0 : Nat) (5 : Nat)) (0 : Int) (1500 : Int)), PS.int IntKind.i64 (q_within (g (0 : Nat) (6 : Nat)) (0 : Int) (1500 : Int)), PS.int IntKind.i64 (0 : Int), PS.int IntKind.i64 (q_within (g (0 : Nat) (8 : Nat)) (0 : Int) (11 : Int)), PS.int IntKind.i64 (q_within (g (0 : Nat) (9 : Nat)) (0 : Int) (11 : Int)), PS.str (sx (0 : Nat) (10 : Nat)), PS.str { data := { toList := [] } }])))])) else (rounds (yShp fl) (kShp fl) mm ([((6 : Nat), none, i64 ((1 : Int))), ((5 : Nat), none, PV.one (PS.os (86 : Nat))), ((4 : Nat), none, PV.one PS.nils), ((0 : Nat), none, PV.one (PS.view n (12 : Nat) (rwj g sx jx))), ((1 : Nat), none, PV.one (PS.bool tb))]) ([((86 : Nat), OB.rows (28 : Nat) (12 : Nat) (1 : Nat) (appRow (0 : Nat) (fun _ _ ↦ PS.nilp) (litRow (12 : Nat) [PS.int IntKind.i64 (1 : Int), PS.int IntKind.i64 (0 : Int), PS.int IntKind.i64 (q_within (g (0 : Nat) (2 : Nat)) (0 : Int) (7 : Int)), PS.int IntKind.i64 (q_within (g (0 : Nat) (3 : Nat)) (-2000 : Int) (2000 : Int)), PS.int IntKind.i64 (q_within (g (0 : Nat) (4 : Nat)) (-2000 : Int) (2000 : Int)), PS.int IntKind.i64 (q_within (g (0 : Nat) (5 : Nat)) (0 : Int) (1500 : Int)), PS.int IntKind.i64 (q_within (g (0 : Nat) (6 : Nat)) (0 : Int) (1500 : Int)), PS.int IntKind.i64 (0 : Int), PS.int IntKind.i64 (0 : Int), PS.int IntKind.i64 (0 : Int), PS.str (sx (0 : Nat) (10 : Nat)), PS.str { data := { toList := [] } }])))]))))) else (some ((PV.one PS.nils, [])))) := by kernel_rfl
theorem shp_st (fl mm n q : Nat) (g g' : Nat → Nat → Int) (sx sx' : Nat → Nat → ByteArray) (jx jx' : Nat → Nat → PS) (tb : Bool) (i : Int) : rounds (yShp fl) (kShp fl) (mm + 1) (hShp n (rwj g sx jx) (.os 86) tb i) [(86, .rows 28 12 q (rwj g' sx' jx'))] = (if (bif decide (i < (↑n : Int)) then decide (i < (10 : Int)) else false) = true then (chk true (decide ((0 : Int) ≤ i) && decide (i < (↑n : Int))) (if (tb) = true then (if (bif decide (i > (0 : Int)) then (g i.toNat (1 : Nat)).tmod (3 : Int) == (0 : Int) else false) = true then (if (true && (q_small (1000000000 : Nat) (W (i - (1 : Int))) && decide ((0 : Int) ≤ W (i - (1 : Int))))) = true then (chk true (decide ((0 : Int) ≤ q_within (W ((g i.toNat (1 : Nat)).tdiv (3 : Int))) (0 : Int) (W (i - (1 : Int)))) && decide (q_within (W ((g i.toNat (1 : Nat)).tdiv (3 : Int))) (0 : Int) (W (i - (1 : Int))) < (↑q : Int))) (chk true (decide ((q_within (W ((g i.toNat (1 : Nat)).tdiv (3 : Int))) (0 : Int) (W (i - (1 : Int)))).toNat < q) && true) (if (g' (q_within (W ((g i.toNat (1 : Nat)).tdiv (3 : Int))) (0 : Int) (W (i - (1 : Int)))).toNat (2 : Nat) == (5 : Int)) = true then (if (q_within (g i.toNat (2 : Nat)) (0 : Int) (7 : Int) == (6 : Int)) = true then (if (true && (decide (q + (1 : Nat) ≤ (9223372036854775807 : Nat)) && decide ((q + (1 : Nat)) * (112 : Nat) ≤ (140737488355328 : Nat)))) = true then (rounds (yShp fl) (kShp fl) mm ([((6 : Nat), none, i64 ((W (i + (1 : Int))))), ((5 : Nat), none, PV.one (PS.os (86 : Nat))), ((4 : Nat), none, PV.one PS.nils), ((0 : Nat), none, PV.one (PS.view n (12 : Nat) (rwj g sx jx))), ((1 : Nat), none, PV.one (PS.bool tb))]) ([((86 : Nat), OB.rows (28 : Nat) (12 : Nat) (q + (1 : Nat)) (appRow q (rwj g' sx' jx') (litRow (12 : Nat) [PS.int IntKind.i64 (W (i + (1 : Int))), PS.int IntKind.i64 (W (q_within (W ((g i.toNat (1 : Nat)).tdiv (3 : Int))) (0 : Int) (W (i - (1 : Int))) + (1 : Int))), PS.int IntKind.i64 (q_within (g i.toNat (2 : Nat)) (0 : Int) (7 : Int)), PS.int IntKind.i64 (q_within (g i.toNat (3 : Nat)) (-2000 : Int) (2000 : Int)), PS.int IntKind.i64 (q_within (g i.toNat (4 : Nat)) (-2000 : Int) (2000 : Int)), PS.int IntKind.i64 (q_within (g i.toNat (5 : Nat)) (0 : Int) (1500 : Int)), PS.int IntKind.i64 (q_within (g i.toNat (6 : Nat)) (0 : Int) (1500 : Int)), PS.int IntKind.i64 (q_within (g i.toNat (7 : Nat)) (0 : Int) (3599 : Int)), PS.int IntKind.i64 (q_within (g i.toNat (8 : Nat)) (0 : Int) (11 : Int)), PS.int IntKind.i64 (q_within (g i.toNat (9 : Nat)) (0 : Int) (11 : Int)), PS.str (sx i.toNat (10 : Nat)), PS.str { data := { toList := [] } }])))])) else none) else (if (true && (decide (q + (1 : Nat) ≤ (9223372036854775807 : Nat)) && decide ((q + (1 : Nat)) * (112 : Nat) ≤ (140737488355328 : Nat)))) = true then (rounds (yShp fl) (kShp fl) mm ([((6 : Nat), none, i64 ((W (i + (1 : Int))))), ((5 : Nat), none, PV.one (PS.os (86 : Nat))), ((4 : Nat), none, PV.one PS.nils), ((0 : Nat), none, PV.one (PS.view n (12 : Nat) (rwj g sx jx))), ((1 : Nat), none, PV.one (PS.bool tb))]) ([((86 : Nat), OB.rows (28 : Nat) (12 : Nat) (q + (1 : Nat)) (appRow q (rwj g' sx' jx') (litRow (12 : Nat) [PS.int IntKind.i64 (W (i + (1 : Int))), PS.int IntKind.i64 (W (q_within (W ((g i.toNat (1 : Nat)).tdiv (3 : Int))) (0 : Int) (W (i - (1 : Int))) + (1 : Int))), PS.int IntKind.i64 (q_within (g i.toNat (2 : Nat)) (0 : Int) (7 : Int)), PS.int IntKind.i64 (q_within (g i.toNat (3 : Nat)) (-2000 : Int) (2000 : Int)), PS.int IntKind.i64 (q_within (g i.toNat (4 : Nat)) (-2000 : Int) (2000 : Int)), PS.int IntKind.i64 (q_within (g i.toNat (5 : Nat)) (0 : Int) (1500 : Int)), PS.int IntKind.i64 (q_within (g i.toNat (6 : Nat)) (0 : Int) (1500 : Int)), PS.int IntKind.i64 (q_within (g i.toNat (7 : Nat)) (0 : Int) (3599 : Int)), PS.int IntKind.i64 (0 : Int), PS.int IntKind.i64 (0 : Int), PS.str (sx i.toNat (10 : Nat)), PS.str { data := { toList := [] } }])))])) else none)) else (if (q_within (g i.toNat (2 : Nat)) (0 : Int) (7 : Int) == (6 : Int)) = true then (if (true && (decide (q + (1 : Nat) ≤ (9223372036854775807 : Nat)) && decide ((q + (1 : Nat)) * (112 : Nat) ≤ (140737488355328 : Nat)))) = true then (rounds (yShp fl) (kShp fl) mm ([((6 : Nat), none, i64 ((W (i + (1 : Int))))), ((5 : Nat), none, PV.one (PS.os (86 : Nat))), ((4 : Nat), none, PV.one PS.nils), ((0 : Nat), none, PV.one (PS.view n (12 : Nat) (rwj g sx jx))), ((1 : Nat), none, PV.one (PS.bool tb))]) ([((86 : Nat), OB.rows (28 : Nat) (12 : Nat) (q + (1 : Nat)) (appRow q (rwj g' sx' jx') (litRow (12 : Nat) [PS.int IntKind.i64 (W (i + (1 : Int))), PS.int IntKind.i64 (0 : Int), PS.int IntKind.i64 (q_within (g i.toNat (2 : Nat)) (0 : Int) (7 : Int)), PS.int IntKind.i64 (q_within (g i.toNat (3 : Nat)) (-2000 : Int) (2000 : Int)), PS.int IntKind.i64 (q_within (g i.toNat (4 : Nat)) (-2000 : Int) (2000 : Int)), PS.int IntKind.i64 (q_within (g i.toNat (5 : Nat)) (0 : Int) (1500 : Int)), PS.int IntKind.i64 (q_within (g i.toNat (6 : Nat)) (0 : Int) (1500 : Int)), PS.int IntKind.i64 (q_within (g i.toNat (7 : Nat)) (0 : Int) (3599 : Int)), PS.int IntKind.i64 (q_within (g i.toNat (8 : Nat)) (0 : Int) (11 : Int)), PS.int IntKind.i64 (q_within (g i.toNat (9 : Nat)) (0 : Int) (11 : Int)), PS.str (sx i.toNat (10 : Nat)), PS.str { data := { toList := [] } }])))])) else none) else (if (true && (decide (q + (1 : Nat) ≤ (9223372036854775807 : Nat)) && decide ((q + (1 : Nat)) * (112 : Nat) ≤ (140737488355328 : Nat)))) = true then (rounds (yShp fl) (kShp fl) mm ([((6 : Nat), none, i64 ((W (i + (1 : Int))))), ((5 : Nat), none, PV.one (PS.os (86 : Nat))), ((4 : Nat), none, PV.one PS.nils), ((0 : Nat), none, PV.one (PS.view n (12 : Nat) (rwj g sx jx))), ((1 : Nat), none, PV.one (PS.bool tb))]) ([((86 : Nat), OB.rows (28 : Nat) (12 : Nat) (q + (1 : Nat)) (appRow q (rwj g' sx' jx') (litRow (12 : Nat) [PS.int IntKind.i64 (W (i + (1 : Int))), PS.int IntKind.i64 (0 : Int), PS.int IntKind.i64 (q_within (g i.toNat (2 : Nat)) (0 : Int) (7 : Int)), PS.int IntKind.i64 (q_within (g i.toNat (3 : Nat)) (-2000 : Int) (2000 : Int)), PS.int IntKind.i64 (q_within (g i.toNat (4 : Nat)) (-2000 : Int) (2000 : Int)), PS.int IntKind.i64 (q_within (g i.toNat (5 : Nat)) (0 : Int) (1500 : Int)), PS.int IntKind.i64 (q_within (g i.toNat (6 : Nat)) (0 : Int) (1500 : Int)), PS.int IntKind.i64 (q_within (g i.toNat (7 : Nat)) (0 : Int) (3599 : Int)), PS.int IntKind.i64 (0 : Int), PS.int IntKind.i64 (0 : Int), PS.str (sx i.toNat (10 : Nat)), PS.str { data := { toList := [] } }])))])) else none))))) else none) else (if (q_within (g i.toNat (2 : Nat)) (0 : Int) (7 : Int) == (6 : Int)) = true then (if (true && (decide (q + (1 : Nat) ≤ (9223372036854775807 : Nat)) && decide ((q + (1 : Nat)) * (112 : Nat) ≤ (140737488355328 : Nat)))) = true then (rounds (yShp fl) (kShp fl) mm ([((6 : Nat), none, i64 ((W (i + (1 : Int))))), ((5 : Nat), none, PV.one (PS.os (86 : Nat))), ((4 : Nat), none, PV.one PS.nils), ((0 : Nat), none, PV.one (PS.view n (12 : Nat) (rwj g sx jx))), ((1 : Nat), none, PV.one (PS.bool tb))]) ([((86 : Nat), OB.rows (28 : Nat) (12 : Nat) (q + (1 : Nat)) (appRow q (rwj g' sx' jx') (litRow (12 : Nat) [PS.int IntKind.i64 (W (i + (1 : Int))), PS.int IntKind.i64 (0 : Int), PS.int IntKind.i64 (q_within (g i.toNat (2 : Nat)) (0 : Int) (7 : Int)), PS.int IntKind.i64 (q_within (g i.toNat (3 : Nat)) (-2000 : Int) (2000 : Int)), PS.int IntKind.i64 (q_within (g i.toNat (4 : Nat)) (-2000 : Int) (2000 : Int)), PS.int IntKind.i64 (q_within (g i.toNat (5 : Nat)) (0 : Int) (1500 : Int)), PS.int IntKind.i64 (q_within (g i.toNat (6 : Nat)) (0 : Int) (1500 : Int)), PS.int IntKind.i64 (q_within (g i.toNat (7 : Nat)) (0 : Int) (3599 : Int)), PS.int IntKind.i64 (q_within (g i.toNat (8 : Nat)) (0 : Int) (11 : Int)), PS.int IntKind.i64 (q_within (g i.toNat (9 : Nat)) (0 : Int) (11 : Int)), PS.str (sx i.toNat (10 : Nat)), PS.str { data := { toList := [] } }])))])) else none) else (if (true && (decide (q + (1 : Nat) ≤ (9223372036854775807 : Nat)) && decide ((q + (1 : Nat)) * (112 : Nat) ≤ (140737488355328 : Nat)))) = true then (rounds (yShp fl) (kShp fl) mm ([((6 : Nat), none, i64 ((W (i + (1 : Int))))), ((5 : Nat), none, PV.one (PS.os (86 : Nat))), ((4 : Nat), none, PV.one PS.nils), ((0 : Nat), none, PV.one (PS.view n (12 : Nat) (rwj g sx jx))), ((1 : Nat), none, PV.one (PS.bool tb))]) ([((86 : Nat), OB.rows (28 : Nat) (12 : Nat) (q + (1 : Nat)) (appRow q (rwj g' sx' jx') (litRow (12 : Nat) [PS.int IntKind.i64 (W (i + (1 : Int))), PS.int IntKind.i64 (0 : Int), PS.int IntKind.i64 (q_within (g i.toNat (2 : Nat)) (0 : Int) (7 : Int)), PS.int IntKind.i64 (q_within (g i.toNat (3 : Nat)) (-2000 : Int) (2000 : Int)), PS.int IntKind.i64 (q_within (g i.toNat (4 : Nat)) (-2000 : Int) (2000 : Int)), PS.int IntKind.i64 (q_within (g i.toNat (5 : Nat)) (0 : Int) (1500 : Int)), PS.int IntKind.i64 (q_within (g i.toNat (6 : Nat)) (0 : Int) (1500 : Int)), PS.int IntKind.i64 (q_within (g i.toNat (7 : Nat)) (0 : Int) (3599 : Int)), PS.int IntKind.i64 (0 : Int), PS.int IntKind.i64 (0 : Int), PS.str (sx i.toNat (10 : Nat)), PS.str { data := { toList := [] } }])))])) else none))) else (if (bif decide (i > (0 : Int)) then (g i.toNat (1 : Nat)).tmod (3 : Int) == (0 : Int) else false) = true then (if (true && (q_small (1000000000 : Nat) (W (i - (1 : Int))) && decide ((0 : Int) ≤ W (i - (1 : Int))))) = true then (chk true (decide ((0 : Int) ≤ q_within (W ((g i.toNat (1 : Nat)).tdiv (3 : Int))) (0 : Int) (W (i - (1 : Int)))) && decide (q_within (W ((g i.toNat (1 : Nat)).tdiv (3 : Int))) (0 : Int) (W (i - (1 : Int))) < (↑q : Int))) (chk true (decide ((q_within (W ((g i.toNat (1 : Nat)).tdiv (3 : Int))) (0 : Int) (W (i - (1 : Int)))).toNat < q) && true) (if (g' (q_within (W ((g i.toNat (1 : Nat)).tdiv (3 : Int))) (0 : Int) (W (i - (1 : Int)))).toNat (2 : Nat) == (5 : Int)) = true then (if (q_within (g i.toNat (2 : Nat)) (0 : Int) (7 : Int) == (6 : Int)) = true then (if (true && (decide (q + (1 : Nat) ≤ (9223372036854775807 : Nat)) && decide ((q + (1 : Nat)) * (112 : Nat) ≤ (140737488355328 : Nat)))) = true then (rounds (yShp fl) (kShp fl) mm ([((6 : Nat), none, i64 ((W (i + (1 : Int))))), ((5 : Nat), none, PV.one (PS.os (86 : Nat))), ((4 : Nat), none, PV.one PS.nils), ((0 : Nat), none, PV.one (PS.view n (12 : Nat) (rwj g sx jx))), ((1 : Nat), none, PV.one (PS.bool tb))]) ([((86 : Nat), OB.rows (28 : Nat) (12 : Nat) (q + (1 : Nat)) (appRow q (rwj g' sx' jx') (litRow (12 : Nat) [PS.int IntKind.i64 (W (i + (1 : Int))), PS.int IntKind.i64 (W (q_within (W ((g i.toNat (1 : Nat)).tdiv (3 : Int))) (0 : Int) (W (i - (1 : Int))) + (1 : Int))), PS.int IntKind.i64 (q_within (g i.toNat (2 : Nat)) (0 : Int) (7 : Int)), PS.int IntKind.i64 (q_within (g i.toNat (3 : Nat)) (-2000 : Int) (2000 : Int)), PS.int IntKind.i64 (q_within (g i.toNat (4 : Nat)) (-2000 : Int) (2000 : Int)), PS.int IntKind.i64 (q_within (g i.toNat (5 : Nat)) (0 : Int) (1500 : Int)), PS.int IntKind.i64 (q_within (g i.toNat (6 : Nat)) (0 : Int) (1500 : Int)), PS.int IntKind.i64 (0 : Int), PS.int IntKind.i64 (q_within (g i.toNat (8 : Nat)) (0 : Int) (11 : Int)), PS.int IntKind.i64 (q_within (g i.toNat (9 : Nat)) (0 : Int) (11 : Int)), PS.str (sx i.toNat (10 : Nat)), PS.str { data := { toList := [] } }])))])) else none) else (if (true && (decide (q + (1 : Nat) ≤ (9223372036854775807 : Nat)) && decide ((q + (1 : Nat)) * (112 : Nat) ≤ (140737488355328 : Nat)))) = true then (rounds (yShp fl) (kShp fl) mm ([((6 : Nat), none, i64 ((W (i + (1 : Int))))), ((5 : Nat), none, PV.one (PS.os (86 : Nat))), ((4 : Nat), none, PV.one PS.nils), ((0 : Nat), none, PV.one (PS.view n (12 : Nat) (rwj g sx jx))), ((1 : Nat), none, PV.one (PS.bool tb))]) ([((86 : Nat), OB.rows (28 : Nat) (12 : Nat) (q + (1 : Nat)) (appRow q (rwj g' sx' jx') (litRow (12 : Nat) [PS.int IntKind.i64 (W (i + (1 : Int))), PS.int IntKind.i64 (W (q_within (W ((g i.toNat (1 : Nat)).tdiv (3 : Int))) (0 : Int) (W (i - (1 : Int))) + (1 : Int))), PS.int IntKind.i64 (q_within (g i.toNat (2 : Nat)) (0 : Int) (7 : Int)), PS.int IntKind.i64 (q_within (g i.toNat (3 : Nat)) (-2000 : Int) (2000 : Int)), PS.int IntKind.i64 (q_within (g i.toNat (4 : Nat)) (-2000 : Int) (2000 : Int)), PS.int IntKind.i64 (q_within (g i.toNat (5 : Nat)) (0 : Int) (1500 : Int)), PS.int IntKind.i64 (q_within (g i.toNat (6 : Nat)) (0 : Int) (1500 : Int)), PS.int IntKind.i64 (0 : Int), PS.int IntKind.i64 (0 : Int), PS.int IntKind.i64 (0 : Int), PS.str (sx i.toNat (10 : Nat)), PS.str { data := { toList := [] } }])))])) else none)) else (if (q_within (g i.toNat (2 : Nat)) (0 : Int) (7 : Int) == (6 : Int)) = true then (if (true && (decide (q + (1 : Nat) ≤ (9223372036854775807 : Nat)) && decide ((q + (1 : Nat)) * (112 : Nat) ≤ (140737488355328 : Nat)))) = true then (rounds (yShp fl) (kShp fl) mm ([((6 : Nat), none, i64 ((W (i + (1 : Int))))), ((5 : Nat), none, PV.one (PS.os (86 : Nat))), ((4 : Nat), none, PV.one PS.nils), ((0 : Nat), none, PV.one (PS.view n (12 : Nat) (rwj g sx jx))), ((1 : Nat), none, PV.one (PS.bool tb))]) ([((86 : Nat), OB.rows (28 : Nat) (12 : Nat) (q + (1 : Nat)) (appRow q (rwj g' sx' jx') (litRow (12 : Nat) [PS.int IntKind.i64 (W (i + (1 : Int))), PS.int IntKind.i64 (0 : Int), PS.int IntKind.i64 (q_within (g i.toNat (2 : Nat)) (0 : Int) (7 : Int)), PS.int IntKind.i64 (q_within (g i.toNat (3 : Nat)) (-2000 : Int) (2000 : Int)), PS.int IntKind.i64 (q_within (g i.toNat (4 : Nat)) (-2000 : Int) (2000 : Int)), PS.int IntKind.i64 (q_within (g i.toNat (5 : Nat)) (0 : Int) (1500 : Int)), PS.int IntKind.i64 (q_within (g i.toNat (6 : Nat)) (0 : Int) (1500 : Int)), PS.int IntKind.i64 (0 : Int), PS.int IntKind.i64 (q_within (g i.toNat (8 : Nat)) (0 : Int) (11 : Int)), PS.int IntKind.i64 (q_within (g i.toNat (9 : Nat)) (0 : Int) (11 : Int)), PS.str (sx i.toNat (10 : Nat)), PS.str { data := { toList := [] } }])))])) else none) else (if (true && (decide (q + (1 : Nat) ≤ (9223372036854775807 : Nat)) && decide ((q + (1 : Nat)) * (112 : Nat) ≤ (140737488355328 : Nat)))) = true then (rounds (yShp fl) (kShp fl) mm ([((6 : Nat), none, i64 ((W (i + (1 : Int))))), ((5 : Nat), none, PV.one (PS.os (86 : Nat))), ((4 : Nat), none, PV.one PS.nils), ((0 : Nat), none, PV.one (PS.view n (12 : Nat) (rwj g sx jx))), ((1 : Nat), none, PV.one (PS.bool tb))]) ([((86 : Nat), OB.rows (28 : Nat) (12 : Nat) (q + (1 : Nat)) (appRow q (rwj g' sx' jx') (litRow (12 : Nat) [PS.int IntKind.i64 (W (i + (1 : Int))), PS.int IntKind.i64 (0 : Int), PS.int IntKind.i64 (q_within (g i.toNat (2 : Nat)) (0 : Int) (7 : Int)), PS.int IntKind.i64 (q_within (g i.toNat (3 : Nat)) (-2000 : Int) (2000 : Int)), PS.int IntKind.i64 (q_within (g i.toNat (4 : Nat)) (-2000 : Int) (2000 : Int)), PS.int IntKind.i64 (q_within (g i.toNat (5 : Nat)) (0 : Int) (1500 : Int)), PS.int IntKind.i64 (q_within (g i.toNat (6 : Nat)) (0 : Int) (1500 : Int)), PS.int IntKind.i64 (0 : Int), PS.int IntKind.i64 (0 : Int), PS.int IntKind.i64 (0 : Int), PS.str (sx i.toNat (10 : Nat)), PS.str { data := { toList := [] } }])))])) else none))))) else none) else (if (q_within (g i.toNat (2 : Nat)) (0 : Int) (7 : Int) == (6 : Int)) = true then (if (true && (decide (q + (1 : Nat) ≤ (9223372036854775807 : Nat)) && decide ((q + (1 : Nat)) * (112 : Nat) ≤ (140737488355328 : Nat)))) = true then (rounds (yShp fl) (kShp fl) mm ([((6 : Nat), none, i64 ((W (i + (1 : Int))))), ((5 : Nat), none, PV.one (PS.os (86 : Nat))), ((4 : Nat), none, PV.one PS.nils), ((0 : Nat), none, PV.one (PS.view n (12 : Nat) (rwj g sx jx))), ((1 : Nat), none, PV.one (PS.bool tb))]) ([((86 : Nat), OB.rows (28 : Nat) (12 : Nat) (q + (1 : Nat)) (appRow q (rwj g' sx' jx') (litRow (12 : Nat) [PS.int IntKind.i64 (W (i + (1 : Int))), PS.int IntKind.i64 (0 : Int), PS.int IntKind.i64 (q_within (g i.toNat (2 : Nat)) (0 : Int) (7 : Int)), PS.int IntKind.i64 (q_within (g i.toNat (3 : Nat)) (-2000 : Int) (2000 : Int)), PS.int IntKind.i64 (q_within (g i.toNat (4 : Nat)) (-2000 : Int) (2000 : Int)), PS.int IntKind.i64 (q_within (g i.toNat (5 : Nat)) (0 : Int) (1500 : Int)), PS.int IntKind.i64 (q_within (g i.toNat (6 : Nat)) (0 : Int) (1500 : Int)), PS.int IntKind.i64 (0 : Int), PS.int IntKind.i64 (q_within (g i.toNat (8 : Nat)) (0 : Int) (11 : Int)), PS.int IntKind.i64 (q_within (g i.toNat (9 : Nat)) (0 : Int) (11 : Int)), PS.str (sx i.toNat (10 : Nat)), PS.str { data := { toList := [] } }])))])) else none) else (if (true && (decide (q + (1 : Nat) ≤ (9223372036854775807 : Nat)) && decide ((q + (1 : Nat)) * (112 : Nat) ≤ (140737488355328 : Nat)))) = true then (rounds (yShp fl) (kShp fl) mm ([((6 : Nat), none, i64 ((W (i + (1 : Int))))), ((5 : Nat), none, PV.one (PS.os (86 : Nat))), ((4 : Nat), none, PV.one PS.nils), ((0 : Nat), none, PV.one (PS.view n (12 : Nat) (rwj g sx jx))), ((1 : Nat), none, PV.one (PS.bool tb))]) ([((86 : Nat), OB.rows (28 : Nat) (12 : Nat) (q + (1 : Nat)) (appRow q (rwj g' sx' jx') (litRow (12 : Nat) [PS.int IntKind.i64 (W (i + (1 : Int))), PS.int IntKind.i64 (0 : Int), PS.int IntKind.i64 (q_within (g i.toNat (2 : Nat)) (0 : Int) (7 : Int)), PS.int IntKind.i64 (q_within (g i.toNat (3 : Nat)) (-2000 : Int) (2000 : Int)), PS.int IntKind.i64 (q_within (g i.toNat (4 : Nat)) (-2000 : Int) (2000 : Int)), PS.int IntKind.i64 (q_within (g i.toNat (5 : Nat)) (0 : Int) (1500 : Int)), PS.int IntKind.i64 (q_within (g i.toNat (6 : Nat)) (0 : Int) (1500 : Int)), PS.int IntKind.i64 (0 : Int), PS.int IntKind.i64 (0 : Int), PS.int IntKind.i64 (0 : Int), PS.str (sx i.toNat (10 : Nat)), PS.str { data := { toList := [] } }])))])) else none))))) else (some ((PV.one (PS.os (0 : Nat)), [((0 : Nat), OB.rows (28 : Nat) (12 : Nat) q (rwj g' sx' jx'))])))) := by kernel_rfl
abbrev emp : ByteArray := { data := { toList := [] } }
def q_sk (g : Nat → Nat → Int) (i : Nat) : Int := q_within (W ((g i 1).tdiv 3)) 0 ((i : Int) - 1)
def q_spar (g : Nat → Nat → Int) (i : Nat) : Int := if (0 < i ∧ (g i 1).tmod 3 = 0) ∧ q_within (g (q_sk g i).toNat 2) 0 7 = 5 then q_sk g i + 1 else 0
def q_shl (tb : Bool) (g : Nat → Nat → Int) (i : Nat) : List Int := [(i : Int) + 1, q_spar g i, q_within (g i 2) 0 7, q_within (g i 3) (-2000) 2000, q_within (g i 4) (-2000) 2000, q_within (g i 5) 0 1500, q_within (g i 6) 0 1500, if tb = true then q_within (g i 7) 0 3599 else 0, if q_within (g i 2) 0 7 = 6 then q_within (g i 8) 0 11 else 0, if q_within (g i 2) 0 7 = 6 then q_within (g i 9) 0 11 else 0]
/-- The shapes that are made valid. -/
def q_shG (tb : Bool) (g : Nat → Nat → Int) : Nat → Nat → Int := fun i j => (q_shl tb g i).getD j 0
def q_shS (sx : Nat → Nat → ByteArray) : Nat → Nat → ByteArray := fun i j => if j = 10 then sx i 10 else emp
theorem sk_in {g : Nat → Nat → Int} {i : Nat} (h : 0 < i) : 0 ≤ q_sk g i ∧ q_sk g i < i := by
  have := within_in (W ((g i 1).tdiv 3)) 0 ((i : Int) - 1) (by omega)
  unfold q_sk
  omega
def RwIs (n : Nat) (G : Nat → Nat → Int) (S : Nat → Nat → ByteArray) (row : Nat → Nat → PS) : Prop := ∃ g' s' jx, row = rwj g' s' jx ∧ (∀ i j, i < n → j < 10 → g' i j = G i j) ∧ ∀ i j, i < n → j = 10 ∨ j = 11 → s' i j = S i j
theorem rwIs_app {n : Nat} {G : Nat → Nat → Int} {S : Nat → Nat → ByteArray} {row : Nat → Nat → PS} (h : RwIs n G S row) {c : Nat → Int} {s1 s2 : ByteArray} (hc : ∀ j, j < 10 → c j = G n j) (h1 : s1 = S n 10) (h2 : s2 = S n 11) : RwIs (n + 1) G S (appRow n row (litRow 12 (cel c s1 s2))) := by
  obtain ⟨g', s', jx, rfl, a, b⟩ := h
  obtain ⟨jx', e⟩ := app_rw n g' s' jx c s1 s2
  refine ⟨_, _, jx', e, fun i j hi hj => ?_, fun i j hi hj => ?_⟩
  · unfold appG
    by_cases q : i < n
    · rw [if_pos q]; exact a i j q hj
    · rw [if_neg q]
      obtain rfl : i = n := by omega
      exact hc j hj
  · unfold appS
    by_cases q : i < n
    · rw [if_pos q]; exact b i j q hj
    · rw [if_neg q]
      obtain rfl : i = n := by omega
      rcases hj with rfl | rfl
      · rw [if_pos rfl]; exact h1
      · rw [if_neg (by omega)]; exact h2
theorem rwIs_first {G : Nat → Nat → Int} {S : Nat → Nat → ByteArray} {R : Nat → Nat → PS} {c : Nat → Int} {s1 s2 : ByteArray} (hc : ∀ j, j < 10 → c j = G 0 j) (h1 : s1 = S 0 10) (h2 : s2 = S 0 11) : RwIs 1 G S (appRow 0 R (litRow 12 (cel c s1 s2))) := by
  obtain ⟨jx', e⟩ := app_rw0 R c s1 s2
  refine ⟨_, _, jx', e, fun i j hi hj => ?_, fun i j hi hj => ?_⟩
  · obtain rfl : i = 0 := by omega
    exact hc j hj
  · obtain rfl : i = 0 := by omega
    rcases hj with rfl | rfl
    · simp only [if_pos]; exact h1
    · exact h2
theorem rwIs_ag {n : Nat} {G : Nat → Nat → Int} {S : Nat → Nat → ByteArray} {row : Nat → Nat → PS} (h : RwIs n G S row) : ∀ i j, i < n → j < 12 → agS (row i j) (q_rw G S i j) := by
  obtain ⟨g', s', jx, rfl, a, b⟩ := h
  exact rw_ag a b
theorem shp_step (fl mm n q : Nat) (g g' : Nat → Nat → Int) (sx sx' : Nat → Nat → ByteArray) (jx jx' : Nat → Nat → PS) (tb : Bool) (hq : 0 < q) (hqn : q < n) (hq10 : q < 10) (hg : ∀ k, k < q → g' k 2 = q_within (g k 2) 0 7) :
    rounds (yShp fl) (kShp fl) (mm + 1) (hShp n (rwj g sx jx) (.os 86) tb (q : Nat)) [(86, .rows 28 12 q (rwj g' sx' jx'))] = rounds (yShp fl) (kShp fl) mm (hShp n (rwj g sx jx) (.os 86) tb ((q + 1 : Nat) : Int)) [(86, .rows 28 12 (q + 1) (appRow q (rwj g' sx' jx') (litRow 12 (cel (q_shG tb g q) (sx q 10) emp))))] := by
  have hs := sk_in (g := g) hq
  have w1 : W ((q : Int) - 1) = (q : Int) - 1 := W_id (by omega) (by omega)
  have w2 : W (q_sk g q + 1) = q_sk g q + 1 := W_id (by omega) (by omega)
  have w3 : W ((q : Int) + 1) = (q : Int) + 1 := W_id (by omega) (by omega)
  have e : q_within (W ((g q 1).tdiv 3)) 0 ((q : Int) - 1) = q_sk g q := rfl
  have ek := hg (q_sk g q).toNat (by omega)
  have hm : (true && (decide (q + 1 ≤ 9223372036854775807) && decide ((q + 1) * 112 ≤ 140737488355328))) = true := by simp <;> omega
  have hc : (decide ((0 : Int) ≤ q_sk g q) && decide (q_sk g q < (q : Int))) = true := by simp <;> omega
  have hc2 : (decide ((q_sk g q).toNat < q) && true) = true := by simp <;> omega
  have hw : (true && (q_small 1000000000 ((q : Int) - 1) && decide ((0 : Int) ≤ (q : Int) - 1))) = true := by
    have : q_small 1000000000 ((q : Int) - 1) = true := small_iff.2 (by omega)
    rw [this]; simp <;> omega
  rw [shp_st]
  simp only [Int.toNat_natCast, w1, e, w2, w3]
  rw [if_pos (by simp <;> omega), chk_true (by simp <;> omega)]
  have c1 : q_spar g q = if (0 < q ∧ (g q 1).tmod 3 = 0) ∧ g' (q_sk g q).toNat 2 = 5 then q_sk g q + 1 else 0 := by unfold q_spar; rw [ek]
  have kq : ((q : Nat) : Int) + 1 = ((q + 1 : Nat) : Int) := rfl
  have t1 : ∀ (par tn fr tt : Int), q_spar g q = par → (if tb = true then q_within (g q 7) 0 3599 else 0) = tn → (if q_within (g q 2) 0 7 = 6 then q_within (g q 8) 0 11 else 0) = fr → (if q_within (g q 2) 0 7 = 6 then q_within (g q 9) 0 11 else 0) = tt →
      [PS.int .i64 ((q : Int) + 1), .int .i64 par, .int .i64 (q_within (g q 2) 0 7), .int .i64 (q_within (g q 3) (-2000) 2000), .int .i64 (q_within (g q 4) (-2000) 2000), .int .i64 (q_within (g q 5) 0 1500), .int .i64 (q_within (g q 6) 0 1500), .int .i64 tn, .int .i64 fr, .int .i64 tt, .str (sx q 10), .str emp] = cel (q_shG tb g q) (sx q 10) emp := fun par tn fr tt h1 h2 h3 h4 => by subst h1 h2 h3 h4; rfl
  cases tb with
  | true =>
    rw [if_pos rfl]
    by_cases p1 : (g q 1).tmod 3 = 0
    · rw [if_pos (by simp [p1]; omega), if_pos hw, chk_true hc, chk_true hc2]
      by_cases p2 : g' (q_sk g q).toNat 2 = 5
      · rw [if_pos (by simpa using p2)]
        by_cases p3 : q_within (g q 2) 0 7 = 6
        · rw [if_pos (by simpa using p3), if_pos hm, t1 _ _ _ _ (by rw [c1, if_pos ⟨⟨hq, p1⟩, p2⟩]) (if_pos rfl) (if_pos p3) (if_pos p3)] <;> rfl
        · rw [if_neg (by simpa using p3), if_pos hm, t1 _ _ _ _ (by rw [c1, if_pos ⟨⟨hq, p1⟩, p2⟩]) (if_pos rfl) (if_neg p3) (if_neg p3)] <;> rfl
      · rw [if_neg (by simpa using p2)]
        by_cases p3 : q_within (g q 2) 0 7 = 6
        · rw [if_pos (by simpa using p3), if_pos hm, t1 _ _ _ _ (by rw [c1, if_neg (fun h => p2 h.2)]) (if_pos rfl) (if_pos p3) (if_pos p3)] <;> rfl
        · rw [if_neg (by simpa using p3), if_pos hm, t1 _ _ _ _ (by rw [c1, if_neg (fun h => p2 h.2)]) (if_pos rfl) (if_neg p3) (if_neg p3)] <;> rfl
    · rw [if_neg (by simp [p1])]
      by_cases p3 : q_within (g q 2) 0 7 = 6
      · rw [if_pos (by simpa using p3), if_pos hm, t1 _ _ _ _ (by rw [c1, if_neg (fun h => p1 h.1.2)]) (if_pos rfl) (if_pos p3) (if_pos p3)] <;> rfl
      · rw [if_neg (by simpa using p3), if_pos hm, t1 _ _ _ _ (by rw [c1, if_neg (fun h => p1 h.1.2)]) (if_pos rfl) (if_neg p3) (if_neg p3)] <;> rfl
  | false =>
    rw [if_neg (by decide)]
    by_cases p1 : (g q 1).tmod 3 = 0
    · rw [if_pos (by simp [p1]; omega), if_pos hw, chk_true hc, chk_true hc2]
      by_cases p2 : g' (q_sk g q).toNat 2 = 5
      · rw [if_pos (by simpa using p2)]
        by_cases p3 : q_within (g q 2) 0 7 = 6
        · rw [if_pos (by simpa using p3), if_pos hm, t1 _ _ _ _ (by rw [c1, if_pos ⟨⟨hq, p1⟩, p2⟩]) (if_neg (by decide)) (if_pos p3) (if_pos p3)] <;> rfl
        · rw [if_neg (by simpa using p3), if_pos hm, t1 _ _ _ _ (by rw [c1, if_pos ⟨⟨hq, p1⟩, p2⟩]) (if_neg (by decide)) (if_neg p3) (if_neg p3)] <;> rfl
      · rw [if_neg (by simpa using p2)]
        by_cases p3 : q_within (g q 2) 0 7 = 6
        · rw [if_pos (by simpa using p3), if_pos hm, t1 _ _ _ _ (by rw [c1, if_neg (fun h => p2 h.2)]) (if_neg (by decide)) (if_pos p3) (if_pos p3)] <;> rfl
        · rw [if_neg (by simpa using p3), if_pos hm, t1 _ _ _ _ (by rw [c1, if_neg (fun h => p2 h.2)]) (if_neg (by decide)) (if_neg p3) (if_neg p3)] <;> rfl
    · rw [if_neg (by simp [p1])]
      by_cases p3 : q_within (g q 2) 0 7 = 6
      · rw [if_pos (by simpa using p3), if_pos hm, t1 _ _ _ _ (by rw [c1, if_neg (fun h => p1 h.1.2)]) (if_neg (by decide)) (if_pos p3) (if_pos p3)] <;> rfl
      · rw [if_neg (by simpa using p3), if_pos hm, t1 _ _ _ _ (by rw [c1, if_neg (fun h => p1 h.1.2)]) (if_neg (by decide)) (if_neg p3) (if_neg p3)] <;> rfl
theorem shp_first (fl mm n : Nat) (g : Nat → Nat → Int) (sx : Nat → Nat → ByteArray) (jx : Nat → Nat → PS) (tb : Bool) (hn : 0 < n) :
    rounds (yShp fl) (kShp fl) (mm + 1) (hShp n (rwj g sx jx) .nils tb (0 : Int)) [] = rounds (yShp fl) (kShp fl) mm (hShp n (rwj g sx jx) (.os 86) tb (1 : Int)) [(86, .rows 28 12 1 (appRow 0 (fun _ _ => .nilp) (litRow 12 (cel (q_shG tb g 0) (sx 0 10) emp))))] := by
  rw [shp_one, if_pos (by simp <;> omega), chk_true (by simp <;> omega)]
  have t1 : ∀ (tn fr tt : Int), (if tb = true then q_within (g 0 7) 0 3599 else 0) = tn → (if q_within (g 0 2) 0 7 = 6 then q_within (g 0 8) 0 11 else 0) = fr → (if q_within (g 0 2) 0 7 = 6 then q_within (g 0 9) 0 11 else 0) = tt →
      [PS.int .i64 1, .int .i64 0, .int .i64 (q_within (g 0 2) 0 7), .int .i64 (q_within (g 0 3) (-2000) 2000), .int .i64 (q_within (g 0 4) (-2000) 2000), .int .i64 (q_within (g 0 5) 0 1500), .int .i64 (q_within (g 0 6) 0 1500), .int .i64 tn, .int .i64 fr, .int .i64 tt, .str (sx 0 10), .str emp] = cel (q_shG tb g 0) (sx 0 10) emp := fun tn fr tt h2 h3 h4 => by subst h2 h3 h4; rfl
  cases tb with
  | true =>
    rw [if_pos rfl]
    by_cases p3 : q_within (g 0 2) 0 7 = 6
    · rw [if_pos (by simpa using p3), t1 _ _ _ (if_pos rfl) (if_pos p3) (if_pos p3)]
    · rw [if_neg (by simpa using p3), t1 _ _ _ (if_pos rfl) (if_neg p3) (if_neg p3)]
  | false =>
    rw [if_neg (by decide)]
    by_cases p3 : q_within (g 0 2) 0 7 = 6
    · rw [if_pos (by simpa using p3), t1 _ _ _ (if_neg (by decide)) (if_pos p3) (if_pos p3)]
    · rw [if_neg (by simpa using p3), t1 _ _ _ (if_neg (by decide)) (if_neg p3) (if_neg p3)]
theorem shp_ex (n : Nat) (hn : 0 < n) (g : Nat → Nat → Int) (sx : Nat → Nat → ByteArray) (jx : Nat → Nat → PS) (tb : Bool) : ∃ row', callF prog gl noD 12 O8 0 9 [.one (.view n 12 (rwj g sx jx)), bl tb] [] = some (.one (.os 0), [(0, .rows 28 12 (min n 10) row')]) ∧ RwIs (min n 10) (q_shG tb g) (q_shS sx) row' := by
  rw [shp_pre]
  refine (congrArg (fun z => ∃ row', z = some (PV.one (.os 0), [(0, OB.rows 28 12 (min n 10) row')]) ∧ RwIs (min n 10) (q_shG tb g) (q_shS sx) row') (shp_first 12 11 n g sx jx tb hn)).mpr ?_
  refine loop_ex (body := yShp 12) (K := kShp 12) (σ := Nat → Nat → PS) (fun i _ => hShp n (rwj g sx jx) (.os 86) tb ((i : Nat) : Int)) (fun i row => [(86, .rows 28 12 i row)]) (fun i row => RwIs i (q_shG tb g) (q_shS sx) row ∧ 1 ≤ i) (min n 10) (Z := fun x => ∃ row', x = some (PV.one (.os 0), [(0, OB.rows 28 12 (min n 10) row')]) ∧ RwIs (min n 10) (q_shG tb g) (q_shS sx) row') ?_ ?_ 11 1 _ (by omega) (by omega) ⟨rwIs_first (fun _ _ => rfl) rfl rfl, by omega⟩
  · rintro i row mm hi ⟨hR, h1⟩
    refine ⟨appRow i row (litRow 12 (cel (q_shG tb g i) (sx i 10) emp)), ⟨rwIs_app hR (fun _ _ => rfl) rfl rfl, by omega⟩, ?_⟩
    obtain ⟨g', s', jx', rfl, a, b⟩ := hR
    exact shp_step 12 mm n i g g' sx s' jx jx' tb (by omega) (by omega) (by omega) (fun k hk => a k 2 hk (by omega))
  · rintro row mm ⟨hR, h1⟩
    refine ⟨row, ?_, hR⟩
    have hR' := hR
    obtain ⟨g', s', jx', rfl, a, b⟩ := hR
    rw [shp_st]
    by_cases c : n ≤ 10
    · rw [if_neg (by simp; omega)]
    · rw [if_neg (by simp; omega)]
theorem shG_cut {tb : Bool} {n : Nat} {g : Nat → Nat → Int} {i j : Nat} (hi : i < n) : q_shG tb (cutG n g) i j = q_shG tb g i j := by
  have c := fun k j (hk : k ≤ i) hj => cutG_in (n := n) (g := g) (i := k) (j := j) (by omega) hj
  have e1 : q_sk (cutG n g) i = q_sk g i := by unfold q_sk; rw [c i 1 (Nat.le_refl i) (by omega)]
  have e2 : q_spar (cutG n g) i = q_spar g i := by
    unfold q_spar
    rw [e1, c i 1 (Nat.le_refl i) (by omega)]
    by_cases h : 0 < i
    · have := sk_in (g := g) h
      rw [c (q_sk g i).toNat 2 (by omega) (by omega)]
    · rw [if_neg (fun q => h q.1.1), if_neg (fun q => h q.1.1)]
  unfold q_shG q_shl
  rw [e2, c i 2 (Nat.le_refl i) (by omega), c i 3 (Nat.le_refl i) (by omega), c i 4 (Nat.le_refl i) (by omega), c i 5 (Nat.le_refl i) (by omega), c i 6 (Nat.le_refl i) (by omega), c i 7 (Nat.le_refl i) (by omega), c i 8 (Nat.le_refl i) (by omega), c i 9 (Nat.le_refl i) (by omega)]
theorem shp_0 (row : Nat → Nat → PS) (tb : Bool) : callF prog gl noD 12 O8 0 9 [.one (.view 0 12 row), bl tb] [] = (some ((PV.one PS.nils, []))) := by kernel_rfl
noncomputable def O9 : Orac := addN 9 (fun nb vs H => match nb, vs, H with
  | 0, [.one (.view 0 12 row), .one (.bool tb)], [] => some (true, .one .nils, [])
  | _, _, _ => none) (addM 9 (fun nb vs H => match nb, vs, H with
  | 0, [.one (.view n 12 row), .one (.bool tb)], [] => some (q_dec (0 < n ∧ q_isRw row), .one (.os 0), [(0, .rows 28 12 (min n 10) (q_rw (q_shG tb (q_nu n row)) (q_shS (q_tx2 n row))))])
  | _, _, _ => none) O8)
theorem sO9 : Sound prog gl O9 := by
  have h1 : Sound prog gl (addM 9 (fun nb vs H => match nb, vs, H with
  | 0, [.one (.view n 12 row), .one (.bool tb)], [] => some (q_dec (0 < n ∧ q_isRw row), .one (.os 0), [(0, OB.rows 28 12 (min n 10) (q_rw (q_shG tb (q_nu n row)) (q_shS (q_tx2 n row))))])
  | _, _, _ => none) O8) := add_ag (D := noD) sO8 sO8 mo (fun nb vs H v H' h => by
    split at h
    · rename_i n row tb
      obtain ⟨h1, h2, h3⟩ : q_dec (0 < n ∧ q_isRw row) = true ∧ .one (.os 0) = v ∧ [(0, OB.rows 28 12 (min n 10) (q_rw (q_shG tb (q_nu n row)) (q_shS (q_tx2 n row))))] = H' := by simpa using h
      subst h2 h3
      obtain ⟨h0, ⟨g, sx, jx, rfl⟩⟩ := q_dec_iff.1 h1
      obtain ⟨row', e1, hR⟩ := shp_ex n h0 g sx jx tb
      refine ⟨12, _, _, e1, agV_refl _, .inr ⟨0, _, 12, _, _, _, [], rfl, rfl, rwIs_ag ?_, fun p hp => nomatch hp⟩⟩
      obtain ⟨g', s', jx', rfl, a, b⟩ := hR
      refine ⟨g', s', jx', rfl, fun i j hi hj => ?_, fun i j hi hj => ?_⟩
      · rw [nu_rwj, shG_cut (by omega)]; exact a i j hi hj
      · rw [tx_rwj, b i j hi hj]
        unfold q_shS
        split
        · unfold cutS; rw [if_pos ⟨by omega, .inl rfl⟩]
        · rfl
    · cases h)
  exact addN_ok h1 <| add_ok (D := noD) h1 sO8 mo (fun nb vs H v H' h => by
    split at h
    · rename_i row tb
      obtain ⟨h2, h3⟩ : .one .nils = v ∧ [] = H' := by simpa using h
      subst h2 h3
      exact ⟨12, shp_0 row tb⟩
    · cases h)
end Go.Proofs.Ytobfnncpjkeloaa.Sh
