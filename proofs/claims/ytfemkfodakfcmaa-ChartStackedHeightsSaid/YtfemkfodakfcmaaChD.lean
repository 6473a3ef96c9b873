import Derived.Test.YtfemkfodakfcmaaChC
namespace Go.Proofs.Ytfemkfodakfcmaa.Sh
open Go Go.RowKit Go.Proofs.Ytfemkfodakfcmaa.Ev Go.Proofs.Try
set_option maxRecDepth 100000
set_option linter.unusedVariables false
/-! scale.Find -/
abbrev pFd : List Bool := [true, true, true, true, false]
abbrev rFj : List Bool := [false, false, true, false]
abbrev pFj : List Bool := pFd ++ (false :: rFj)
abbrev hFd (a b c pw : Int) : En := [(8, none, i64 pw), (7, none, i64 0), (6, none, .one (.ptr 6 0)), (0, none, i64 a), (1, none, i64 b), (2, none, i64 c)]
abbrev bFd : Heap := [(6, .box [.int .i64 0, .int .i64 0, .int .i64 0])]
noncomputable abbrev yFd (fl : Nat) : En → Heap → (Exit → En → Heap → Option (PV × Heap)) → Option (PV × Heap) := bodyAt prog gl O7 noD f19 3 0 fl pFd
noncomputable abbrev yFj (fl : Nat) : En → Heap → (Exit → En → Heap → Option (PV × Heap)) → Option (PV × Heap) := bodyAt prog gl O7 noD f19 3 0 fl pFj
noncomputable abbrev kFd (fl : Nat) := kAt prog gl O7 noD f19 3 0 fl pFd
noncomputable def kFj (fl mm : Nat) (a b c pw : Int) : Exit → En → Heap → Option (PV × Heap) := kontAt prog gl O7 noD (liveF f19) [] (0 + nOf f19 3 + 1) 0 (nOf f19 3) fl rFj (codeAt (pFd ++ [false]) (bodyOf f19)) (kRound (yFd fl) (kFd fl) mm (hFd a b c pw) bFd)
theorem fd_pre (fl : Nat) (a b c : Int) : callF prog gl noD fl O7 0 19 [i64 a, i64 b, i64 c] [] = (if (bif bif bif bif bif decide (a < (-1000000000000 : Int)) then true else decide (a > (1000000000000 : Int)) then true else decide (b < (-1000000000000 : Int)) then true else decide (b > (1000000000000 : Int)) then true else decide (c < (2 : Int)) then true else decide (c > (50 : Int))) = true then (some ((PV.tup [PV.agg [PS.int IntKind.i64 (0 : Int), PS.int IntKind.i64 (0 : Int), PS.int IntKind.i64 (0 : Int)], i64 ((2 : Int))], []))) else (if (decide (a > b)) = true then (some ((PV.tup [PV.agg [PS.int IntKind.i64 (0 : Int), PS.int IntKind.i64 (0 : Int), PS.int IntKind.i64 (0 : Int)], i64 ((5 : Int))], []))) else (rounds (yFd fl) (kFd fl) fl ([((8 : Nat), none, i64 ((1 : Int))), ((7 : Nat), none, i64 ((0 : Int))), ((6 : Nat), none, PV.one (PS.ptr (6 : Nat) (0 : Nat))), ((0 : Nat), none, i64 (a)), ((1 : Nat), none, i64 (b)), ((2 : Nat), none, i64 (c))]) ([((6 : Nat), OB.box [PS.int IntKind.i64 (0 : Int), PS.int IntKind.i64 (0 : Int), PS.int IntKind.i64 (0 : Int)])])))) := by kernel_rfl
theorem fd_step (fl mm : Nat) (a b c pw : Int) : rounds (yFd fl) (kFd fl) (mm + 1) (hFd a b c pw) bFd = (rounds (yFj fl) (kFj fl mm a b c pw) fl ([((45 : Nat), none, i64 ((0 : Int))), ((44 : Nat), none, i64 ((3 : Int))), ((43 : Nat), none, PV.one (PS.os (43 : Nat))), ((8 : Nat), none, i64 (pw)), ((7 : Nat), none, i64 ((0 : Int))), ((6 : Nat), none, PV.one (PS.ptr (6 : Nat) (0 : Nat))), ((0 : Nat), none, i64 (a)), ((1 : Nat), none, i64 (b)), ((2 : Nat), none, i64 (c))]) ([((43 : Nat), OB.rows (3 : Nat) (1 : Nat) (3 : Nat) (litRow (1 : Nat) [PS.int IntKind.i64 (1 : Int), PS.int IntKind.i64 (2 : Int), PS.int IntKind.i64 (5 : Int)])), ((6 : Nat), OB.box [PS.int IntKind.i64 (0 : Int), PS.int IntKind.i64 (0 : Int), PS.int IntKind.i64 (0 : Int)])])) := by kernel_rfl
abbrev hFj (a b c pw j : Int) : En := [(45, none, i64 j), (44, none, i64 3), (43, none, .one (.os 43))] ++ hFd a b c pw
def q_125 : Nat → Nat → PS := litRow 1 [.int .i64 1, .int .i64 2, .int .i64 5]
abbrev bFj : Heap := (43, .rows 3 1 3 (litRow 1 [.int .i64 1, .int .i64 2, .int .i64 5])) :: bFd
theorem fj_step0 (fl mm m0 : Nat) (a b c pw : Int) : rounds (yFj fl) (kFj fl mm a b c pw) (m0 + 1) (hFj a b c pw 0) bFj = (if (q_small (9000000000000000000 : Nat) a && decide ((0 : Int) < W ((1 : Int) * pw))) = true then (if (q_small (9000000000000000000 : Nat) (W ((0 : Int) - b)) && decide ((0 : Int) < W ((1 : Int) * pw))) = true then (if (q_flo a (W ((1 : Int) * pw)) == W ((0 : Int) - q_flo (W ((0 : Int) - b)) (W ((1 : Int) * pw)))) = true then (if (decide (W (W (W ((0 : Int) - q_flo (W ((0 : Int) - b)) (W ((1 : Int) * pw))) + (1 : Int)) - q_flo a (W ((1 : Int) * pw))) ≤ c)) = true then (some ((PV.tup [PV.agg [PS.int IntKind.i64 (W (q_flo a (W ((1 : Int) * pw)) * W ((1 : Int) * pw))), PS.int IntKind.i64 (W (W (W ((0 : Int) - q_flo (W ((0 : Int) - b)) (W ((1 : Int) * pw))) + (1 : Int)) * W ((1 : Int) * pw))), PS.int IntKind.i64 (W ((1 : Int) * pw))], i64 ((0 : Int))], []))) else (rounds (yFj fl) (kFj fl mm a b c pw) m0 ([((45 : Nat), none, i64 ((1 : Int))), ((44 : Nat), none, i64 ((3 : Int))), ((43 : Nat), none, PV.one (PS.os (43 : Nat))), ((8 : Nat), none, i64 (pw)), ((7 : Nat), none, i64 ((0 : Int))), ((6 : Nat), none, PV.one (PS.ptr (6 : Nat) (0 : Nat))), ((0 : Nat), none, i64 (a)), ((1 : Nat), none, i64 (b)), ((2 : Nat), none, i64 (c))]) ([((43 : Nat), OB.rows (3 : Nat) (1 : Nat) (3 : Nat) (litRow (1 : Nat) [PS.int IntKind.i64 (1 : Int), PS.int IntKind.i64 (2 : Int), PS.int IntKind.i64 (5 : Int)])), ((6 : Nat), OB.box [PS.int IntKind.i64 (0 : Int), PS.int IntKind.i64 (0 : Int), PS.int IntKind.i64 (0 : Int)])]))) else (if (decide (W (W ((0 : Int) - q_flo (W ((0 : Int) - b)) (W ((1 : Int) * pw))) - q_flo a (W ((1 : Int) * pw))) ≤ c)) = true then (some ((PV.tup [PV.agg [PS.int IntKind.i64 (W (q_flo a (W ((1 : Int) * pw)) * W ((1 : Int) * pw))), PS.int IntKind.i64 (W (W ((0 : Int) - q_flo (W ((0 : Int) - b)) (W ((1 : Int) * pw))) * W ((1 : Int) * pw))), PS.int IntKind.i64 (W ((1 : Int) * pw))], i64 ((0 : Int))], []))) else (rounds (yFj fl) (kFj fl mm a b c pw) m0 ([((45 : Nat), none, i64 ((1 : Int))), ((44 : Nat), none, i64 ((3 : Int))), ((43 : Nat), none, PV.one (PS.os (43 : Nat))), ((8 : Nat), none, i64 (pw)), ((7 : Nat), none, i64 ((0 : Int))), ((6 : Nat), none, PV.one (PS.ptr (6 : Nat) (0 : Nat))), ((0 : Nat), none, i64 (a)), ((1 : Nat), none, i64 (b)), ((2 : Nat), none, i64 (c))]) ([((43 : Nat), OB.rows (3 : Nat) (1 : Nat) (3 : Nat) (litRow (1 : Nat) [PS.int IntKind.i64 (1 : Int), PS.int IntKind.i64 (2 : Int), PS.int IntKind.i64 (5 : Int)])), ((6 : Nat), OB.box [PS.int IntKind.i64 (0 : Int), PS.int IntKind.i64 (0 : Int), PS.int IntKind.i64 (0 : Int)])])))) else none) else none) := by kernel_rfl
theorem fj_step1 (fl mm m0 : Nat) (a b c pw : Int) : rounds (yFj fl) (kFj fl mm a b c pw) (m0 + 1) (hFj a b c pw 1) bFj = (if (q_small (9000000000000000000 : Nat) a && decide ((0 : Int) < W ((2 : Int) * pw))) = true then (if (q_small (9000000000000000000 : Nat) (W ((0 : Int) - b)) && decide ((0 : Int) < W ((2 : Int) * pw))) = true then (if (q_flo a (W ((2 : Int) * pw)) == W ((0 : Int) - q_flo (W ((0 : Int) - b)) (W ((2 : Int) * pw)))) = true then (if (decide (W (W (W ((0 : Int) - q_flo (W ((0 : Int) - b)) (W ((2 : Int) * pw))) + (1 : Int)) - q_flo a (W ((2 : Int) * pw))) ≤ c)) = true then (some ((PV.tup [PV.agg [PS.int IntKind.i64 (W (q_flo a (W ((2 : Int) * pw)) * W ((2 : Int) * pw))), PS.int IntKind.i64 (W (W (W ((0 : Int) - q_flo (W ((0 : Int) - b)) (W ((2 : Int) * pw))) + (1 : Int)) * W ((2 : Int) * pw))), PS.int IntKind.i64 (W ((2 : Int) * pw))], i64 ((0 : Int))], []))) else (rounds (yFj fl) (kFj fl mm a b c pw) m0 ([((45 : Nat), none, i64 ((2 : Int))), ((44 : Nat), none, i64 ((3 : Int))), ((43 : Nat), none, PV.one (PS.os (43 : Nat))), ((8 : Nat), none, i64 (pw)), ((7 : Nat), none, i64 ((0 : Int))), ((6 : Nat), none, PV.one (PS.ptr (6 : Nat) (0 : Nat))), ((0 : Nat), none, i64 (a)), ((1 : Nat), none, i64 (b)), ((2 : Nat), none, i64 (c))]) ([((43 : Nat), OB.rows (3 : Nat) (1 : Nat) (3 : Nat) (litRow (1 : Nat) [PS.int IntKind.i64 (1 : Int), PS.int IntKind.i64 (2 : Int), PS.int IntKind.i64 (5 : Int)])), ((6 : Nat), OB.box [PS.int IntKind.i64 (0 : Int), PS.int IntKind.i64 (0 : Int), PS.int IntKind.i64 (0 : Int)])]))) else (if (decide (W (W ((0 : Int) - q_flo (W ((0 : Int) - b)) (W ((2 : Int) * pw))) - q_flo a (W ((2 : Int) * pw))) ≤ c)) = true then (some ((PV.tup [PV.agg [PS.int IntKind.i64 (W (q_flo a (W ((2 : Int) * pw)) * W ((2 : Int) * pw))), PS.int IntKind.i64 (W (W ((0 : Int) - q_flo (W ((0 : Int) - b)) (W ((2 : Int) * pw))) * W ((2 : Int) * pw))), PS.int IntKind.i64 (W ((2 : Int) * pw))], i64 ((0 : Int))], []))) else (rounds (yFj fl) (kFj fl mm a b c pw) m0 ([((45 : Nat), none, i64 ((2 : Int))), ((44 : Nat), none, i64 ((3 : Int))), ((43 : Nat), none, PV.one (PS.os (43 : Nat))), ((8 : Nat), none, i64 (pw)), ((7 : Nat), none, i64 ((0 : Int))), ((6 : Nat), none, PV.one (PS.ptr (6 : Nat) (0 : Nat))), ((0 : Nat), none, i64 (a)), ((1 : Nat), none, i64 (b)), ((2 : Nat), none, i64 (c))]) ([((43 : Nat), OB.rows (3 : Nat) (1 : Nat) (3 : Nat) (litRow (1 : Nat) [PS.int IntKind.i64 (1 : Int), PS.int IntKind.i64 (2 : Int), PS.int IntKind.i64 (5 : Int)])), ((6 : Nat), OB.box [PS.int IntKind.i64 (0 : Int), PS.int IntKind.i64 (0 : Int), PS.int IntKind.i64 (0 : Int)])])))) else none) else none) := by kernel_rfl
theorem fj_step2 (fl mm m0 : Nat) (a b c pw : Int) : rounds (yFj fl) (kFj fl mm a b c pw) (m0 + 1) (hFj a b c pw 2) bFj = (if (q_small (9000000000000000000 : Nat) a && decide ((0 : Int) < W ((5 : Int) * pw))) = true then (if (q_small (9000000000000000000 : Nat) (W ((0 : Int) - b)) && decide ((0 : Int) < W ((5 : Int) * pw))) = true then (if (q_flo a (W ((5 : Int) * pw)) == W ((0 : Int) - q_flo (W ((0 : Int) - b)) (W ((5 : Int) * pw)))) = true then (if (decide (W (W (W ((0 : Int) - q_flo (W ((0 : Int) - b)) (W ((5 : Int) * pw))) + (1 : Int)) - q_flo a (W ((5 : Int) * pw))) ≤ c)) = true then (some ((PV.tup [PV.agg [PS.int IntKind.i64 (W (q_flo a (W ((5 : Int) * pw)) * W ((5 : Int) * pw))), PS.int IntKind.i64 (W (W (W ((0 : Int) - q_flo (W ((0 : Int) - b)) (W ((5 : Int) * pw))) + (1 : Int)) * W ((5 : Int) * pw))), PS.int IntKind.i64 (W ((5 : Int) * pw))], i64 ((0 : Int))], []))) else (rounds (yFj fl) (kFj fl mm a b c pw) m0 ([((45 : Nat), none, i64 ((3 : Int))), ((44 : Nat), none, i64 ((3 : Int))), ((43 : Nat), none, PV.one (PS.os (43 : Nat))), ((8 : Nat), none, i64 (pw)), ((7 : Nat), none, i64 ((0 : Int))), ((6 : Nat), none, PV.one (PS.ptr (6 : Nat) (0 : Nat))), ((0 : Nat), none, i64 (a)), ((1 : Nat), none, i64 (b)), ((2 : Nat), none, i64 (c))]) ([((43 : Nat), OB.rows (3 : Nat) (1 : Nat) (3 : Nat) (litRow (1 : Nat) [PS.int IntKind.i64 (1 : Int), PS.int IntKind.i64 (2 : Int), PS.int IntKind.i64 (5 : Int)])), ((6 : Nat), OB.box [PS.int IntKind.i64 (0 : Int), PS.int IntKind.i64 (0 : Int), PS.int IntKind.i64 (0 : Int)])]))) else (if (decide (W (W ((0 : Int) - q_flo (W ((0 : Int) - b)) (W ((5 : Int) * pw))) - q_flo a (W ((5 : Int) * pw))) ≤ c)) = true then (some ((PV.tup [PV.agg [PS.int IntKind.i64 (W (q_flo a (W ((5 : Int) * pw)) * W ((5 : Int) * pw))), PS.int IntKind.i64 (W (W ((0 : Int) - q_flo (W ((0 : Int) - b)) (W ((5 : Int) * pw))) * W ((5 : Int) * pw))), PS.int IntKind.i64 (W ((5 : Int) * pw))], i64 ((0 : Int))], []))) else (rounds (yFj fl) (kFj fl mm a b c pw) m0 ([((45 : Nat), none, i64 ((3 : Int))), ((44 : Nat), none, i64 ((3 : Int))), ((43 : Nat), none, PV.one (PS.os (43 : Nat))), ((8 : Nat), none, i64 (pw)), ((7 : Nat), none, i64 ((0 : Int))), ((6 : Nat), none, PV.one (PS.ptr (6 : Nat) (0 : Nat))), ((0 : Nat), none, i64 (a)), ((1 : Nat), none, i64 (b)), ((2 : Nat), none, i64 (c))]) ([((43 : Nat), OB.rows (3 : Nat) (1 : Nat) (3 : Nat) (litRow (1 : Nat) [PS.int IntKind.i64 (1 : Int), PS.int IntKind.i64 (2 : Int), PS.int IntKind.i64 (5 : Int)])), ((6 : Nat), OB.box [PS.int IntKind.i64 (0 : Int), PS.int IntKind.i64 (0 : Int), PS.int IntKind.i64 (0 : Int)])])))) else none) else none) := by kernel_rfl
theorem fj_step3 (fl mm m0 : Nat) (a b c pw : Int) : rounds (yFj fl) (kFj fl mm a b c pw) (m0 + 1) (hFj a b c pw 3) bFj = (rounds (yFd fl) (kFd fl) mm ([((8 : Nat), none, i64 ((W (pw * (10 : Int))))), ((7 : Nat), none, i64 ((0 : Int))), ((6 : Nat), none, PV.one (PS.ptr (6 : Nat) (0 : Nat))), ((0 : Nat), none, i64 (a)), ((1 : Nat), none, i64 (b)), ((2 : Nat), none, i64 (c))]) ([((6 : Nat), OB.box [PS.int IntKind.i64 (0 : Int), PS.int IntKind.i64 (0 : Int), PS.int IntKind.i64 (0 : Int)])])) := by kernel_rfl
def FdOk (a b : Int) (x : Option (PV × Heap)) : Prop := ∃ lo hi st, x = some (PV.tup [.agg [.int .i64 lo, .int .i64 hi, .int .i64 st], i64 0], []) ∧ q_sc lo hi st ∧ lo ≤ a ∧ b ≤ hi ∧ lo = a / st * st
def q_fdP (a b c : Int) : Prop := (-12000 ≤ a ∧ a ≤ b ∧ b ≤ 12000) ∧ 2 ≤ c ∧ c ≤ 20
theorem fd_good {a b s A B : Int} (h1 : 1 ≤ s ∧ s ≤ 1200000) (hA : A * s ≤ a) (hB : b ≤ B * s) (hAB : A < B) (hc : B - A ≤ 20) (bd : -3000000 ≤ A * s ∧ B * s ≤ 3000000) (hA0 : a / s = A) : q_sc (A * s) (B * s) s ∧ A * s ≤ a ∧ b ≤ B * s ∧ A * s = a / s * s := by
  have e : B * s - A * s = (B - A) * s := by rw [Int.sub_mul]
  have hlt : 1 * s ≤ (B - A) * s := Int.mul_le_mul_of_nonneg_right (by omega) (by omega)
  refine ⟨⟨by omega, by omega, by omega, by omega, ?_, ?_, ?_⟩, hA, hB, by rw [hA0]⟩
  · rw [e]; exact Int.mul_emod_left _ _
  · exact Int.mul_emod_left _ _
  · rw [e, Int.mul_ediv_cancel _ (by omega)]; omega
theorem fd_try {a b c s S : Int} {R : Option (PV × Heap)} (h : q_fdP a b c) (hs : 1 ≤ s ∧ s ≤ 1200000) (hS : S = s) :
    FdOk a b (if (q_small (9000000000000000000 : Nat) a && decide ((0 : Int) < S)) = true then (if (q_small (9000000000000000000 : Nat) (W ((0 : Int) - b)) && decide ((0 : Int) < S)) = true then (if (q_flo a S == W ((0 : Int) - q_flo (W ((0 : Int) - b)) S)) = true then (if (decide (W (W (W ((0 : Int) - q_flo (W ((0 : Int) - b)) S) + (1 : Int)) - q_flo a S) ≤ c)) = true then (some ((PV.tup [PV.agg [PS.int IntKind.i64 (W (q_flo a S * S)), PS.int IntKind.i64 (W (W (W ((0 : Int) - q_flo (W ((0 : Int) - b)) S) + (1 : Int)) * S)), PS.int IntKind.i64 S], i64 ((0 : Int))], []))) else R) else (if (decide (W (W ((0 : Int) - q_flo (W ((0 : Int) - b)) S) - q_flo a S) ≤ c)) = true then (some ((PV.tup [PV.agg [PS.int IntKind.i64 (W (q_flo a S * S)), PS.int IntKind.i64 (W (W ((0 : Int) - q_flo (W ((0 : Int) - b)) S) * S)), PS.int IntKind.i64 S], i64 ((0 : Int))], []))) else R)) else none) else none) ∨
    ((if (q_small (9000000000000000000 : Nat) a && decide ((0 : Int) < S)) = true then (if (q_small (9000000000000000000 : Nat) (W ((0 : Int) - b)) && decide ((0 : Int) < S)) = true then (if (q_flo a S == W ((0 : Int) - q_flo (W ((0 : Int) - b)) S)) = true then (if (decide (W (W (W ((0 : Int) - q_flo (W ((0 : Int) - b)) S) + (1 : Int)) - q_flo a S) ≤ c)) = true then (some ((PV.tup [PV.agg [PS.int IntKind.i64 (W (q_flo a S * S)), PS.int IntKind.i64 (W (W (W ((0 : Int) - q_flo (W ((0 : Int) - b)) S) + (1 : Int)) * S)), PS.int IntKind.i64 S], i64 ((0 : Int))], []))) else R) else (if (decide (W (W ((0 : Int) - q_flo (W ((0 : Int) - b)) S) - q_flo a S) ≤ c)) = true then (some ((PV.tup [PV.agg [PS.int IntKind.i64 (W (q_flo a S * S)), PS.int IntKind.i64 (W (W ((0 : Int) - q_flo (W ((0 : Int) - b)) S) * S)), PS.int IntKind.i64 S], i64 ((0 : Int))], []))) else R)) else none) else none) = R ∧ s ≤ 24000) := by
  subst hS
  obtain ⟨⟨a1, a2, a3⟩, c1, c2⟩ := h
  rw [W_id (n := 0 - b) (by omega) (by omega)]
  have t1 : q_small 9000000000000000000 a = true := small_iff.2 (by omega)
  have t2 : q_small 9000000000000000000 (0 - b) = true := small_iff.2 (by omega)
  rw [t1, t2, if_pos (by simp; omega), if_pos (by simp; omega)]
  unfold q_flo
  have p1 : 0 < S := by omega
  have f1 := Int.mul_ediv_add_emod a S
  have f2 := Int.emod_nonneg a (b := S) (by omega)
  have f3 := Int.emod_lt_of_pos a p1
  have g1 := Int.mul_ediv_add_emod (0 - b) S
  have g2 := Int.emod_nonneg (0 - b) (b := S) (by omega)
  have g3 := Int.emod_lt_of_pos (0 - b) p1
  have b1 : -12000 ≤ a / S := Int.le_ediv_of_mul_le p1 (by omega)
  have b2 : a / S ≤ 12000 := Int.ediv_le_of_le_mul p1 (by omega)
  have b3 : -12000 ≤ (0 - b) / S := Int.le_ediv_of_mul_le p1 (by omega)
  have b4 : (0 - b) / S ≤ 12000 := Int.ediv_le_of_le_mul p1 (by omega)
  have b5 : 24000 < S → -1 ≤ a / S := fun h => Int.le_ediv_of_mul_le p1 (by omega)
  have b6 : 24000 < S → -1 ≤ (0 - b) / S := fun h => Int.le_ediv_of_mul_le p1 (by omega)
  generalize hA : a / S = A at *
  generalize hB : (0 - b) / S = B at *
  have e1 : A * S = S * A := Int.mul_comm _ _
  have e2 : (0 - B) * S = -(S * B) := by rw [Int.mul_comm, Int.mul_sub]; simp
  have e3 : (0 - B + 1) * S = -(S * B) + S := by rw [Int.add_mul, e2, Int.one_mul]
  have hAB : A ≤ 0 - B := by
    refine Int.le_of_mul_le_mul_right (a := S) ?_ p1
    rw [e1, e2]; omega
  rw [W_id (n := 0 - B) (by omega) (by omega), W_id (n := 0 - B + 1) (by omega) (by omega), W_id (n := 0 - B + 1 - A) (by omega) (by omega), W_id (n := 0 - B - A) (by omega) (by omega), W_id (n := A * S) (by omega) (by omega), W_id (n := (0 - B + 1) * S) (by omega) (by omega), W_id (n := (0 - B) * S) (by omega) (by omega)]
  by_cases e : A = 0 - B
  · rw [if_pos (by simpa using e)]
    by_cases hc : 0 - B + 1 - A ≤ c
    · rw [if_pos (by simpa using hc)]
      exact .inl ⟨_, _, _, rfl, fd_good hs (by omega) (by omega) (by omega) (by omega) (by omega) hA⟩
    · omega
  · rw [if_neg (by simpa using e)]
    by_cases hc : 0 - B - A ≤ c
    · rw [if_pos (by simpa using hc)]
      exact .inl ⟨_, _, _, rfl, fd_good hs (by omega) (by omega) (by omega) (by omega) (by omega) hA⟩
    · rw [if_neg (by simpa using hc)]
      exact .inr ⟨rfl, by omega⟩
theorem fd_loop (fl : Nat) (hf : 10 ≤ fl) {a b c : Int} (h : q_fdP a b c) : ∀ (r m : Nat) (pw : Int), 24000 < pw * 10 ^ r → 1 ≤ pw → pw ≤ 240000 → r < m → FdOk a b (rounds (yFd fl) (kFd fl) m (hFd a b c pw) bFd) := by
  intro r
  induction r with
  | zero =>
    intro m pw h1 h2 h3 hm
    obtain ⟨m, rfl⟩ : ∃ m', m = m' + 1 := ⟨m - 1, by omega⟩
    obtain ⟨f, rfl⟩ : ∃ f', fl = f' + 4 := ⟨fl - 4, by omega⟩
    rw [fd_step]
    refine (fj_step0 (f + 4) m (f + 3) a b c pw).symm ▸ ?_
    rcases fd_try (R := _) h (s := pw) (S := W (1 * pw)) ⟨by omega, by omega⟩ (by rw [W_id (by omega) (by omega)]; omega) with q | ⟨_, q⟩
    · exact q
    · simp at h1; omega
  | succ r ih =>
    intro m pw h1 h2 h3 hm
    obtain ⟨m, rfl⟩ : ∃ m', m = m' + 1 := ⟨m - 1, by omega⟩
    obtain ⟨f, rfl⟩ : ∃ f', fl = f' + 4 := ⟨fl - 4, by omega⟩
    rw [fd_step]
    refine (fj_step0 (f + 4) m (f + 3) a b c pw).symm ▸ ?_
    rcases fd_try (R := _) h (s := pw) (S := W (1 * pw)) ⟨by omega, by omega⟩ (by rw [W_id (by omega) (by omega)]; omega) with q | ⟨q, q1⟩
    · exact q
    · rw [q]
      refine (fj_step1 (f + 4) m (f + 2) a b c pw).symm ▸ ?_
      rcases fd_try (R := _) h (s := 2 * pw) (S := W (2 * pw)) ⟨by omega, by omega⟩ (by rw [W_id (by omega) (by omega)]) with q | ⟨q, q1⟩
      · exact q
      · rw [q]
        refine (fj_step2 (f + 4) m (f + 1) a b c pw).symm ▸ ?_
        rcases fd_try (R := _) h (s := 5 * pw) (S := W (5 * pw)) ⟨by omega, by omega⟩ (by rw [W_id (by omega) (by omega)]) with q | ⟨q, q1⟩
        · exact q
        · rw [q]
          refine (fj_step3 (f + 4) m f a b c pw).symm ▸ ?_
          rw [W_id (n := pw * 10) (by omega) (by omega)]
          refine ih m (pw * 10) ?_ (by omega) (by omega) (by omega)
          rw [Int.pow_succ] at h1
          rw [Int.mul_assoc, Int.mul_comm 10]; exact h1
theorem fd_ex {a b c : Int} (h : q_fdP a b c) : FdOk a b (callF prog gl noD 10 O7 0 19 [i64 a, i64 b, i64 c] []) := by
  have h' := h
  obtain ⟨⟨a1, a2, a3⟩, c1, c2⟩ := h
  rw [fd_pre, if_neg (by simp; omega), if_neg (by simp; omega)]
  exact fd_loop 10 (by omega) h' 5 10 1 (by decide) (by omega) (by omega) (by omega)
/-- What Find answers. -/
noncomputable def q_fd (a b c : Int) : Int × Int × Int := Classical.epsilon fun p => callF prog gl noD 10 O7 0 19 [i64 a, i64 b, i64 c] [] = some (PV.tup [.agg [.int .i64 p.1, .int .i64 p.2.1, .int .i64 p.2.2], i64 0], []) ∧ q_sc p.1 p.2.1 p.2.2 ∧ p.1 ≤ a ∧ b ≤ p.2.1 ∧ p.1 = a / p.2.2 * p.2.2
theorem fd_spec {a b c : Int} (h : q_fdP a b c) : callF prog gl noD 10 O7 0 19 [i64 a, i64 b, i64 c] [] = some (PV.tup [.agg [.int .i64 (q_fd a b c).1, .int .i64 (q_fd a b c).2.1, .int .i64 (q_fd a b c).2.2], i64 0], []) ∧ q_sc (q_fd a b c).1 (q_fd a b c).2.1 (q_fd a b c).2.2 ∧ (q_fd a b c).1 ≤ a ∧ b ≤ (q_fd a b c).2.1 ∧ (q_fd a b c).1 = a / (q_fd a b c).2.2 * (q_fd a b c).2.2 := by
  obtain ⟨lo, hi, st, h1, h2⟩ := fd_ex h
  exact Classical.epsilon_spec (p := fun p : Int × Int × Int => callF prog gl noD 10 O7 0 19 [i64 a, i64 b, i64 c] [] = some (PV.tup [.agg [.int .i64 p.1, .int .i64 p.2.1, .int .i64 p.2.2], i64 0], []) ∧ q_sc p.1 p.2.1 p.2.2 ∧ p.1 ≤ a ∧ b ≤ p.2.1 ∧ p.1 = a / p.2.2 * p.2.2) ⟨(lo, hi, st), h1, h2⟩
noncomputable def q_fd1 (a b c : Int) : Int := (q_fd a b c).1
noncomputable def q_fd2 (a b c : Int) : Int := (q_fd a b c).2.1
noncomputable def q_fd3 (a b c : Int) : Int := (q_fd a b c).2.2
noncomputable def aFd : Nat → List PV → Heap → Option (Bool × PV × Heap)
  | 0, [.one (.int .i64 a), .one (.int .i64 b), .one (.int .i64 c)], [] => some (q_dec (q_fdP a b c), PV.tup [.agg [.int .i64 (q_fd1 a b c), .int .i64 (q_fd2 a b c), .int .i64 (q_fd3 a b c)], i64 0], [])
  | _, _, _ => none
noncomputable def O8 : Orac := addM 19 aFd O7
theorem sO8 : Sound prog gl O8 := add1 sO7 (fun nb vs H v H' h => by
  unfold aFd at h
  split at h
  · rename_i a b c
    obtain ⟨h1, h2, h3⟩ : q_dec (q_fdP a b c) = true ∧ PV.tup [.agg [.int .i64 (q_fd1 a b c), .int .i64 (q_fd2 a b c), .int .i64 (q_fd3 a b c)], i64 0] = v ∧ [] = H' := by simpa using h
    subst h2 h3
    exact ⟨10, (fd_spec (q_dec_iff.1 h1)).1⟩
  · cases h)
end Go.Proofs.Ytfemkfodakfcmaa.Sh
