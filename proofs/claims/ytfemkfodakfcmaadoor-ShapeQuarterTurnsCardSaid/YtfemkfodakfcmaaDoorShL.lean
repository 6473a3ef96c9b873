import Derived.Test.YtfemkfodakfcmaaDoorShK
namespace Go.Proofs.YtfemkfodakfcmaaDoor.Sh
open Go Go.RowKit Go.Proofs.YtfemkfodakfcmaaDoor.Ev Go.Proofs.Tryd
set_option maxRecDepth 100000
/-! the law's own test -/
theorem tst_raw (fl : Nat) : callF prog gl noD fl Oh 0 13 [] [] = (if (q_dec (q_crsP (1 : Nat) (litRow (12 : Nat) [PS.int IntKind.i64 (1 : Int), PS.int IntKind.i64 (0 : Int), PS.int IntKind.i64 (0 : Int), PS.int IntKind.i64 (0 : Int), PS.int IntKind.i64 (0 : Int), PS.int IntKind.i64 (10 : Int), PS.int IntKind.i64 (20 : Int), PS.int IntKind.i64 (900 : Int), PS.int IntKind.i64 (0 : Int), PS.int IntKind.i64 (0 : Int), PS.str { data := { toList := [] } }, PS.str { data := { toList := [] } }]) (1 : Int))) = true then (some ((PV.one (PS.bool true), []))) else none) := by kernel_rfl
theorem lit_rwj (c0 c1 c2 c3 c4 c5 c6 c7 c8 c9 : Int) (s1 s2 : ByteArray) : litRow 12 [.int .i64 c0, .int .i64 c1, .int .i64 c2, .int .i64 c3, .int .i64 c4, .int .i64 c5, .int .i64 c6, .int .i64 c7, .int .i64 c8, .int .i64 c9, .str s1, .str s2] = rwj (fun _ j => cellsOf10 c0 c1 c2 c3 c4 c5 c6 c7 c8 c9 j) (fun _ j => if j = 10 then s1 else s2) (fun _ _ => .nilp) := by
  have := app0_rwj c0 c1 c2 c3 c4 c5 c6 c7 c8 c9 s1 s2
  rw [← this]
  funext i j
  unfold appRow
  rw [if_neg (by omega), Nat.sub_zero]
theorem std_rwj {n : Nat} {g : Nat → Nat → Int} {sx : Nat → Nat → ByteArray} {jx : Nat → Nat → PS} {p : Int} (h : Std n g p) : Std n (fun i j => q_gi (rwj g sx jx i j)) p := ⟨h.1, h.2.1, h.2.2.1, fun i hi => by
  obtain ⟨q0, q1, q2, q3, q4⟩ := h.2.2.2 i hi
  simp only [gi_rwj g sx jx i 0 (by omega), gi_rwj g sx jx i 1 (by omega), gi_rwj g sx jx i 7 (by omega)]
  exact ⟨q0, q1, q2, fun j h3 h4 => by rw [gi_rwj g sx jx i j (by omega)]; exact q3 j h3 h4, q4⟩⟩
theorem grp_rwj {g : Nat → Nat → Int} {sx : Nat → Nat → ByteArray} {jx : Nat → Nat → PS} {p : Int} (h : Grp g p) : Grp (fun i j => q_gi (rwj g sx jx i j)) p := by
  unfold Grp
  simp only [gi_rwj g sx jx _ 1 (by omega), gi_rwj g sx jx _ 2 (by omega)]
  exact h
theorem val_rwj {n : Nat} {g : Nat → Nat → Int} {sx : Nat → Nat → ByteArray} {jx : Nat → Nat → PS} (h : Val n g) : q_valP n (rwj g sx jx) := by
  refine ⟨⟨g, sx, jx, rfl⟩, h.1, fun i hi => ?_, fun i k hik hk => ?_, fun k hk => ?_⟩
  · simp only [gi_rwj g sx jx i 0 (by omega), gi_rwj g sx jx i 1 (by omega), gi_rwj g sx jx i 2 (by omega), gi_rwj g sx jx i 3 (by omega), gi_rwj g sx jx i 4 (by omega), gi_rwj g sx jx i 5 (by omega), gi_rwj g sx jx i 6 (by omega), gi_rwj g sx jx i 7 (by omega), gi_rwj g sx jx i 8 (by omega), gi_rwj g sx jx i 9 (by omega)]
    exact h.2.1 i hi
  · simp only [gi_rwj g sx jx i 0 (by omega), gi_rwj g sx jx k 0 (by omega)]
    exact h.2.2.1 i k hik hk
  · simp only [gi_rwj g sx jx k 1 (by omega)]
    exact ⟨std_rwj (h.2.2.2 k hk).1, grp_rwj (h.2.2.2 k hk).2⟩
theorem tst_eq (fl : Nat) : callF prog gl noD fl Oh 0 13 [] [] = some (bl true, []) := by
  rw [tst_raw]
  refine if_pos (q_dec_iff.2 ?_)
  rw [lit_rwj]
  have hv : Val 1 (fun _ j => cellsOf10 1 0 0 0 0 10 20 900 0 0 j) := by
    refine ⟨by omega, fun i _ => ?_, fun i k h1 h2 => by omega, fun k hk => ⟨⟨by omega, (by decide : (0 : Int) ≤ 0), ?_, fun i hi => ?_⟩, fun i hi => ?_, fun h => absurd rfl h⟩⟩
    · exact (by decide : (0 ≤ (0 : Int) ∧ (0 : Int) ≤ 7) ∧ (1 ≤ (1 : Int) ∧ (1 : Int) ≤ 1000) ∧ (0 ≤ (0 : Int) ∧ (0 : Int) ≤ 1000) ∧ (-1000000 ≤ (0 : Int) ∧ (0 : Int) ≤ 1000000) ∧ (-1000000 ≤ (0 : Int) ∧ (0 : Int) ≤ 1000000) ∧ (0 ≤ (10 : Int) ∧ (10 : Int) ≤ 1000000) ∧ (0 ≤ (20 : Int) ∧ (20 : Int) ≤ 1000000) ∧ (0 ≤ (900 : Int) ∧ (900 : Int) < 3600) ∧ (0 ≤ (0 : Int) ∧ (0 : Int) ≤ 1000) ∧ (0 ≤ (0 : Int) ∧ (0 : Int) ≤ 1000) ∧ ((0 : Int) ≠ 6 → (0 : Int) = 0 ∧ (0 : Int) = 0))
    · show (0 : Int) ≤ _
      omega
    · exact absurd (show (i : Int) < 0 from hi) (by omega)
    · exact absurd (show (i : Int) < 0 from hi) (by omega)
  have hf : q_find 1 (fun i j => q_gi (rwj (fun _ j => cellsOf10 1 0 0 0 0 10 20 900 0 0 j) (fun _ j => if j = 10 then emp else emp) (fun _ _ => .nilp) i j)) 1 = 0 := by decide
  refine ⟨val_rwj hv, ?_, ?_⟩
  · rw [hf]; decide
  · unfold q_at
    rw [hf]
    exact ⟨by decide, .inl rfl⟩
def aTst : Nat → List PV → Heap → Option (Bool × PV × Heap)
  | 0, [], [] => some (true, bl true, [])
  | _, _, _ => none
noncomputable def Oi : Orac := addM 13 aTst Oh
theorem sOi : Sound prog gl Oi := add_ok (D := noD) sOh sOh mo (fun nb vs H v H' h => by
  unfold aTst at h
  split at h
  · obtain ⟨h2, h3⟩ : bl true = v ∧ [] = H' := by simpa using h
    subst h2 h3
    exact ⟨1, tst_eq 1⟩
  · cases h)
end Go.Proofs.YtfemkfodakfcmaaDoor.Sh
