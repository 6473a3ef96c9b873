import Derived.Test.YtlhgmlfhlbmjpaaTlE
namespace Go.Proofs.Ytlhgmlfhlbmjpaa.Sh
open Go Go.RowKit Go.Proofs.Ytlhgmlfhlbmjpaa.Ev Go.Proofs.Try
set_option maxRecDepth 100000
set_option linter.unusedVariables false
def q_srP (n : Nat) (a b : Int) (row : Nat → Nat → PS) : Prop := 0 < n ∧ n ≤ 12 ∧ a = 0 ∧ b = n ∧ q_isJ 4 row ∧ Small n (q_num n 4 row)
noncomputable def aPq : Nat → List PV → Heap → Option (Bool × PV × Heap)
  | 1, [.one (.os 0), .one (.int .i64 a), .one (.int .i64 b), .one (.int .i64 l), .fn 34 []], [(0, .rows 35 4 n row)] => some (q_dec (q_srP n a b row), .tup [], [(0, .rows 35 4 n (q_row 4 (q_so (q_num n 4 row) n)))])
  | _, _, _ => none
noncomputable def O12 : Orac := addM 40 aPq O11
theorem sO12 : Sound prog gl O12 := add_ok (D := DS) sO11 sO11 mo (fun nb vs H v H' h => by
  unfold aPq at h
  split at h
  · rename_i a b l n row
    obtain ⟨h1, h2, h3⟩ : q_dec (q_srP n a b row) = true ∧ .tup [] = v ∧ [(0, OB.rows 35 4 n (q_row 4 (q_so (q_num n 4 row) n)))] = H' := by simpa using h
    subst h2 h3
    have hp := q_dec_iff.1 h1
    obtain ⟨h0, hn, rfl, rfl, ⟨B, J, rfl⟩, hs⟩ := hp
    refine ⟨1, (pq_raw n B J n l).trans ?_⟩
    rw [if_pos (decide_eq_true (by rw [W_id (by omega) (by omega)]; omega)), if_pos (q_dec_iff.2 ⟨h0, hn, rfl, rfl, ⟨B, J, rfl⟩, hs⟩)]
  · cases h)
/-! bits.Len of a short length -/
theorem ln64_0 : callF prog gl noD 1 O7 0 60 [.one (.int .u64 0)] [] = some (i64 0, []) := by kernel_rfl
theorem ln64_1 : callF prog gl noD 1 O7 0 60 [.one (.int .u64 1)] [] = some (i64 1, []) := by kernel_rfl
theorem ln64_2 : callF prog gl noD 1 O7 0 60 [.one (.int .u64 2)] [] = some (i64 2, []) := by kernel_rfl
theorem ln64_3 : callF prog gl noD 1 O7 0 60 [.one (.int .u64 3)] [] = some (i64 2, []) := by kernel_rfl
theorem ln64_4 : callF prog gl noD 1 O7 0 60 [.one (.int .u64 4)] [] = some (i64 3, []) := by kernel_rfl
theorem ln64_5 : callF prog gl noD 1 O7 0 60 [.one (.int .u64 5)] [] = some (i64 3, []) := by kernel_rfl
theorem ln64_6 : callF prog gl noD 1 O7 0 60 [.one (.int .u64 6)] [] = some (i64 3, []) := by kernel_rfl
theorem ln64_7 : callF prog gl noD 1 O7 0 60 [.one (.int .u64 7)] [] = some (i64 3, []) := by kernel_rfl
theorem ln64_8 : callF prog gl noD 1 O7 0 60 [.one (.int .u64 8)] [] = some (i64 4, []) := by kernel_rfl
theorem ln64_9 : callF prog gl noD 1 O7 0 60 [.one (.int .u64 9)] [] = some (i64 4, []) := by kernel_rfl
theorem ln64_10 : callF prog gl noD 1 O7 0 60 [.one (.int .u64 10)] [] = some (i64 4, []) := by kernel_rfl
theorem ln64_11 : callF prog gl noD 1 O7 0 60 [.one (.int .u64 11)] [] = some (i64 4, []) := by kernel_rfl
theorem ln64_12 : callF prog gl noD 1 O7 0 60 [.one (.int .u64 12)] [] = some (i64 4, []) := by kernel_rfl
def q_bit (x : Int) : Int := [0, 1, 2, 2, 3, 3, 3, 3, 4, 4, 4, 4, 4].getD x.toNat 0
theorem ln64_eq (x : Int) (h : 0 ≤ x ∧ x ≤ 12) : callF prog gl noD 1 O7 0 60 [.one (.int .u64 x)] [] = some (i64 (q_bit x), []) := by
  obtain ⟨n, rfl⟩ : ∃ n : Nat, x = n := ⟨x.toNat, by omega⟩
  have hn : n ≤ 12 := by omega
  have : n = 0 ∨ n = 1 ∨ n = 2 ∨ n = 3 ∨ n = 4 ∨ n = 5 ∨ n = 6 ∨ n = 7 ∨ n = 8 ∨ n = 9 ∨ n = 10 ∨ n = 11 ∨ n = 12 := by omega
  rcases this with rfl | rfl | rfl | rfl | rfl | rfl | rfl | rfl | rfl | rfl | rfl | rfl | rfl 
  · exact ln64_0
  · exact ln64_1
  · exact ln64_2
  · exact ln64_3
  · exact ln64_4
  · exact ln64_5
  · exact ln64_6
  · exact ln64_7
  · exact ln64_8
  · exact ln64_9
  · exact ln64_10
  · exact ln64_11
  · exact ln64_12
noncomputable def O13 : Orac := addM 60 (fun nb vs H => match nb, vs, H with
  | 0, [.one (.int .u64 x)], [] => some (q_dec (0 ≤ x ∧ x ≤ 12), i64 (q_bit x), [])
  | _, _, _ => none) O12
theorem sO13 : Sound prog gl O13 := add_ok (D := noD) sO12 sO7 mo (fun nb vs H v H' h => by
  split at h
  · rename_i x
    obtain ⟨h1, h2, h3⟩ : q_dec (0 ≤ x ∧ x ≤ 12) = true ∧ i64 (q_bit x) = v ∧ [] = H' := by simpa using h
    subst h2 h3
    exact ⟨1, ln64_eq x (q_dec_iff.1 h1)⟩
  · cases h)
theorem ln_raw (x : Int) : callF prog gl noD 1 O13 0 41 [.one (.int .u64 x)] [] = (if (q_dec ((0 : Int) ≤ x ∧ x ≤ (12 : Int))) = true then (some ((i64 ((q_bit x)), []))) else none) := by kernel_rfl
noncomputable def O14 : Orac := addM 41 (fun nb vs H => match nb, vs, H with
  | 0, [.one (.int .u64 x)], [] => some (q_dec (0 ≤ x ∧ x ≤ 12), i64 (q_bit x), [])
  | _, _, _ => none) O13
theorem sO14 : Sound prog gl O14 := add_ok (D := noD) sO13 sO13 mo (fun nb vs H v H' h => by
  split at h
  · rename_i x
    obtain ⟨h1, h2, h3⟩ : q_dec (0 ≤ x ∧ x ≤ 12) = true ∧ i64 (q_bit x) = v ∧ [] = H' := by simpa using h
    subst h2 h3
    refine ⟨1, (ln_raw x).trans ?_⟩
    rw [if_pos h1]
  · cases h)
theorem sf_raw (n : Nat) (B : Nat → Nat → Int) (J : Nat → Nat → PS) : callF prog gl DS 1 O14 1 33 [.one (.os 0), .fn 34 []] (bIs n B J) = (if (q_dec ((0 : Int) ≤ IntKind.u64.wrap (↑n : Int) ∧ IntKind.u64.wrap (↑n : Int) ≤ (12 : Int))) = true then (if (q_dec (q_srP n (0 : Int) (↑n : Int) (rj (4 : Nat) B J))) = true then (some ((PV.tup [], [((0 : Nat), OB.rows (35 : Nat) (4 : Nat) n (q_row (4 : Nat) (q_so (q_num n (4 : Nat) (rj (4 : Nat) B J)) n)))]))) else none) else none) := by kernel_rfl
noncomputable def aSf : Nat → List PV → Heap → Option (Bool × PV × Heap)
  | 1, [.one (.os 0), .fn 34 []], [(0, .rows 35 4 n row)] => some (q_dec (0 < n ∧ n ≤ 12 ∧ q_isJ 4 row ∧ Small n (q_num n 4 row)), .tup [], [(0, .rows 35 4 n (q_row 4 (q_so (q_num n 4 row) n)))])
  | _, _, _ => none
noncomputable def O15 : Orac := addM 33 aSf O14
theorem sO15 : Sound prog gl O15 := add_ok (D := DS) sO14 sO14 mo (fun nb vs H v H' h => by
  unfold aSf at h
  split at h
  · rename_i n row
    obtain ⟨h1, h2, h3⟩ : q_dec (0 < n ∧ n ≤ 12 ∧ q_isJ 4 row ∧ Small n (q_num n 4 row)) = true ∧ .tup [] = v ∧ [(0, OB.rows 35 4 n (q_row 4 (q_so (q_num n 4 row) n)))] = H' := by simpa using h
    subst h2 h3
    obtain ⟨h0, hn, ⟨B, J, rfl⟩, hs⟩ := q_dec_iff.1 h1
    refine ⟨1, (sf_raw n B J).trans ?_⟩
    have eu : IntKind.u64.wrap (n : Int) = n := by
      have : IntKind.u64.wrap (n : Int) = (n : Int) % 18446744073709551616 := rfl
      rw [this]; omega
    rw [eu, if_pos (q_dec_iff.2 ⟨by omega, by omega⟩), if_pos (q_dec_iff.2 ⟨h0, hn, rfl, rfl, ⟨B, J, rfl⟩, hs⟩)]
  · cases h)
end Go.Proofs.Ytlhgmlfhlbmjpaa.Sh
