import Derived.Test.YtfemkfodakfcmaaDoorShA
namespace Go.Proofs.YtfemkfodakfcmaaDoor.Sh
open Go Go.RowKit Go.Proofs.YtfemkfodakfcmaaDoor.Ev Go.Proofs.Tryd
theorem mo : prog.follows .mixedOrders = true := by kernel_rfl
set_option maxRecDepth 100000
noncomputable def O1 : Orac := addM 41 aSq noM
theorem sO1 : Sound prog gl O1 := add_ok (D := noD) none_ok none_ok mo (fun nb vs H v H' h => by
  unfold aSq at h
  split at h
  · rename_i a
    obtain ⟨h1, h2, h3⟩ : decide (0 ≤ a ∧ a ≤ 900) = true ∧ i64 (q_sq a) = v ∧ [] = H' := by simpa using h
    subst h2 h3
    exact ⟨1, sq_eq 1 a (by simpa using h1)⟩
  · cases h)
noncomputable def O2 : Orac := addM 41 aSine (addM 33 aRound (addM 8 aWithin noM))
theorem sO2 : Sound prog gl O2 := by
  refine add_ok (D := noD) (N := O1) (add_ok (D := noD) (N := noM) (add_ok (D := noD) (N := noM) none_ok none_ok mo ?_) none_ok mo ?_) sO1 mo ?_
  · intro nb vs H v H' h
    unfold aWithin at h
    split at h
    · rename_i a b c
      obtain ⟨h1, h2, h3⟩ : (q_small 1000000000 b = true ∧ q_small 1000000000 c = true ∧ b ≤ c) ∧ i64 (q_within a b c) = v ∧ [] = H' := by simpa using h
      subst h2 h3
      exact ⟨1, within_eq 1 a b c h1⟩
    · cases h
  · intro nb vs H v H' h
    unfold aRound at h
    split at h
    · rename_i a b
      obtain ⟨h1, h2, h3⟩ : (q_small 1000000000000000000 a = true ∧ q_small 1000000000000000000 b = true ∧ 0 < b) ∧ i64 (q_round a b) = v ∧ [] = H' := by simpa using h
      subst h2 h3
      exact ⟨1, round_eq 1 a b h1⟩
    · cases h
  · intro nb vs H v H' h
    unfold aSine at h
    split at h
    · rename_i a
      obtain ⟨_, h2, h3⟩ : q_small 1000000 a = true ∧ i64 (q_sn a) = v ∧ [] = H' := by simpa using h
      subst h2 h3
      exact ⟨1, sine_eq 1 noM a⟩
    · cases h
/-! turned -/
def q_tx (x y cx cy t : Int) : Int := q_round (cx * 65536 + (2 * x - cx) * q_sn (t + 900) - (2 * y - cy) * q_sn t) 131072
def q_ty (x y cx cy t : Int) : Int := q_round (cy * 65536 + (2 * x - cx) * q_sn t + (2 * y - cy) * q_sn (t + 900)) 131072
theorem turned_raw (fl : Nat) (x y cx cy t : Int) : callF prog gl noD fl O2 0 32 [i64 x, i64 y, i64 cx, i64 cy, i64 t] [] = (if (q_small (1000000 : Nat) t) = true then (if (q_small (1000000 : Nat) (W (t + (900 : Int)))) = true then (if (q_small (1000000000000000000 : Nat) (W (W (W (cx * (65536 : Int)) + W (W (W ((2 : Int) * x) - cx) * q_sn (W (t + (900 : Int))))) - W (W (W ((2 : Int) * y) - cy) * q_sn t))) && true) = true then (if (q_small (1000000000000000000 : Nat) (W (W (W (cy * (65536 : Int)) + W (W (W ((2 : Int) * x) - cx) * q_sn t)) + W (W (W ((2 : Int) * y) - cy) * q_sn (W (t + (900 : Int)))))) && true) = true then (some ((PV.tup [i64 ((q_round (W (W (W (cx * (65536 : Int)) + W (W (W ((2 : Int) * x) - cx) * q_sn (W (t + (900 : Int))))) - W (W (W ((2 : Int) * y) - cy) * q_sn t))) (131072 : Int))), i64 ((q_round (W (W (W (cy * (65536 : Int)) + W (W (W ((2 : Int) * x) - cx) * q_sn t)) + W (W (W ((2 : Int) * y) - cy) * q_sn (W (t + (900 : Int)))))) (131072 : Int)))], []))) else none) else none) else none) else none) := by kernel_rfl
theorem mul_bd {a b A B : Int} (hA : 0 ≤ A) (hB : 0 ≤ B) (ha : -A ≤ a ∧ a ≤ A) (hb : -B ≤ b ∧ b ≤ B) : -(A * B) ≤ a * b ∧ a * b ≤ A * B := by
  have h1 : a.natAbs ≤ A.natAbs := by omega
  have h2 : b.natAbs ≤ B.natAbs := by omega
  have h3 : (a * b).natAbs ≤ A.natAbs * B.natAbs := by rw [Int.natAbs_mul]; exact Nat.mul_le_mul h1 h2
  have h4 : ((A.natAbs * B.natAbs : Nat) : Int) = A * B := by rw [Int.natCast_mul, Int.natAbs_of_nonneg hA, Int.natAbs_of_nonneg hB]
  omega
theorem turned_eq (fl : Nat) (x y cx cy t : Int) (h : q_small 1000000000000 x = true ∧ q_small 1000000000000 y = true ∧ q_small 1000000000000 cx = true ∧ q_small 1000000000000 cy = true ∧ q_small 900000 t = true) : callF prog gl noD fl O2 0 32 [i64 x, i64 y, i64 cx, i64 cy, i64 t] [] = some (.tup [i64 (q_tx x y cx cy t), i64 (q_ty x y cx cy t)], []) := by
  rw [turned_raw]
  simp only [small_iff] at h
  have wt : W (t + 900) = t + 900 := W_id (by omega) (by omega)
  rw [wt]
  unfold q_tx q_ty
  have s1 := sn_bound t
  have s2 := sn_bound (t + 900)
  generalize q_sn t = s at *
  generalize q_sn (t + 900) = c at *
  rw [W_id (n := 2 * x) (by omega) (by omega), W_id (n := 2 * y) (by omega) (by omega), W_id (n := 2 * x - cx) (by omega) (by omega), W_id (n := 2 * y - cy) (by omega) (by omega), W_id (n := cx * 65536) (by omega) (by omega), W_id (n := cy * 65536) (by omega) (by omega)]
  have dx : -4000000000000 ≤ 2 * x - cx ∧ 2 * x - cx ≤ 4000000000000 := by omega
  have dy : -4000000000000 ≤ 2 * y - cy ∧ 2 * y - cy ≤ 4000000000000 := by omega
  have b1 := mul_bd (by omega) (by omega) dx s1
  have b2 := mul_bd (by omega) (by omega) dx s2
  have b3 := mul_bd (by omega) (by omega) dy s1
  have b4 := mul_bd (by omega) (by omega) dy s2
  generalize (2 * x - cx) * s = p1 at *
  generalize (2 * x - cx) * c = p2 at *
  generalize (2 * y - cy) * s = p3 at *
  generalize (2 * y - cy) * c = p4 at *
  rw [W_id (n := p1) (by omega) (by omega), W_id (n := p2) (by omega) (by omega), W_id (n := p3) (by omega) (by omega), W_id (n := p4) (by omega) (by omega), W_id (n := cx * 65536 + p2) (by omega) (by omega), W_id (n := cy * 65536 + p1) (by omega) (by omega), W_id (n := cx * 65536 + p2 - p3) (by omega) (by omega), W_id (n := cy * 65536 + p1 + p4) (by omega) (by omega)]
  have t0 : q_small 1000000 t = true := small_iff.2 (by omega)
  have t1 : q_small 1000000 (t + 900) = true := small_iff.2 (by omega)
  have t2 : q_small 1000000000000000000 (cx * 65536 + p2 - p3) = true := small_iff.2 (by omega)
  have t3 : q_small 1000000000000000000 (cy * 65536 + p1 + p4) = true := small_iff.2 (by omega)
  rw [if_pos t0, if_pos t1, t2, t3]
  rfl
def aTurned : Nat → List PV → Heap → Option (Bool × PV × Heap)
  | 0, [.one (.int .i64 x), .one (.int .i64 y), .one (.int .i64 cx), .one (.int .i64 cy), .one (.int .i64 t)], [] => some (q_small 1000000000000 x && (q_small 1000000000000 y && (q_small 1000000000000 cx && (q_small 1000000000000 cy && q_small 900000 t))), .tup [i64 (q_tx x y cx cy t), i64 (q_ty x y cx cy t)], [])
  | _, _, _ => none
noncomputable def O4 : Orac := addM 32 aTurned O2
theorem sO4 : Sound prog gl O4 := add_ok (D := noD) sO2 sO2 mo (fun nb vs H v H' h => by
  unfold aTurned at h
  split at h
  · rename_i x y cx cy t
    obtain ⟨h1, h2, h3⟩ : (q_small 1000000000000 x = true ∧ q_small 1000000000000 y = true ∧ q_small 1000000000000 cx = true ∧ q_small 1000000000000 cy = true ∧ q_small 900000 t = true) ∧ .tup [i64 (q_tx x y cx cy t), i64 (q_ty x y cx cy t)] = v ∧ [] = H' := by simpa using h
    subst h2 h3
    exact ⟨1, turned_eq 1 x y cx cy t h1⟩
  · cases h)
/-! rows of shapes -/
def rwj (g : Nat → Nat → Int) (sx : Nat → Nat → ByteArray) (jx : Nat → Nat → PS) : Nat → Nat → PS := fun i j => if j < 10 then .int .i64 (g i j) else if j < 12 then .str (sx i j) else jx i j
def q_gi : PS → Int
  | .int _ v => v
  | _ => 0
def q_gs : PS → ByteArray
  | .str s => s
  | _ => ByteArray.empty
def q_isRw (row : Nat → Nat → PS) : Prop := ∃ g sx jx, row = rwj g sx jx
end Go.Proofs.YtfemkfodakfcmaaDoor.Sh
