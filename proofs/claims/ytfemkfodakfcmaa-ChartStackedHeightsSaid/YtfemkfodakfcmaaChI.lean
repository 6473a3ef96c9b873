import Derived.Test.YtfemkfodakfcmaaChH
namespace Go.Proofs.Ytfemkfodakfcmaa.Sh
open Go Go.RowKit Go.Proofs.Ytfemkfodakfcmaa.Ev Go.Proofs.Try
set_option maxRecDepth 100000
set_option linter.unusedVariables false
noncomputable def aBe : Nat → List PV → Heap → Option (Bool × PV × Heap)
  | 1, [.one (.ptr 0 0), .one (.int .i64 i), .one (.int .i64 x), .one (.int .i64 w)], [(0, .box [.int .i64 k, .view n 1 nr, .view m 1 sr, .int .i64 a, .int .i64 b, .int .i64 c, .int .i64 t, .nils])] =>
    some (q_dec (q_isS n sr ∧ 0 ≤ i ∧ q_beP n m (q_V sr) a b c t i.toNat x w 0), .tup [], [(1, .rows 50 6 m (q_bsd m (q_V sr) a b t i.toNat x w)), (0, mkB k n m nr sr a b c t (.os 1))])
  | 2, [.one (.ptr 0 0), .one (.int .i64 i), .one (.int .i64 x), .one (.int .i64 w)], [(0, .box [.int .i64 k, .view n 1 nr, .view m 1 sr, .int .i64 a, .int .i64 b, .int .i64 c, .int .i64 t, .os 1]), (1, .rows 50 6 l row)] =>
    some (q_dec (q_isS n sr ∧ 0 ≤ i ∧ q_beP n m (q_V sr) a b c t i.toNat x w l), .tup [], [(1, .rows 50 6 (l + m) (appRow l row (q_bsd m (q_V sr) a b t i.toNat x w))), (0, mkB k n m nr sr a b c t (.os 1))])
  | _, _, _ => none
noncomputable def O12 : Orac := addM 47 aBe O11
theorem sO12 : Sound prog gl O12 := add_ag (D := DY) sO11 sO11 mo (fun nb vs H v H' h => by
  unfold aBe at h
  split at h
  · rename_i i x w k n nr m sr a b c t
    obtain ⟨h1, h2, h3⟩ : q_dec (q_isS n sr ∧ 0 ≤ i ∧ q_beP n m (q_V sr) a b c t i.toNat x w 0) = true ∧ .tup [] = v ∧ [(1, OB.rows 50 6 m (q_bsd m (q_V sr) a b t i.toNat x w)), (0, mkB k n m nr sr a b c t (.os 1))] = H' := by simpa using h
    subst h2 h3
    obtain ⟨g1, g2, g3⟩ := q_dec_iff.1 h1
    obtain ⟨row', e1, e2, e3⟩ := be_ex1 n m k i x w a b c t nr (q_V sr) i.toNat (by omega) g3
    rw [← isS_V g1] at e1
    simp only [Nat.zero_add] at e1 e3
    exact ⟨20, _, _, e1, agV_refl _, .inr ⟨1, _, 6, m, row', _, _, rfl, rfl, fun i' f hi hf => .of_eq (e3 i' hi f hf), fun p hp => by obtain rfl := List.mem_singleton.1 hp; simp⟩⟩
  · rename_i i x w k n nr m sr a b c t l row
    obtain ⟨h1, h2, h3⟩ : q_dec (q_isS n sr ∧ 0 ≤ i ∧ q_beP n m (q_V sr) a b c t i.toNat x w l) = true ∧ .tup [] = v ∧ [(1, OB.rows 50 6 (l + m) (appRow l row (q_bsd m (q_V sr) a b t i.toNat x w))), (0, mkB k n m nr sr a b c t (.os 1))] = H' := by simpa using h
    subst h2 h3
    obtain ⟨g1, g2, g3⟩ := q_dec_iff.1 h1
    obtain ⟨row', e1, e2, e3⟩ := be_ex2 n m l k i x w a b c t nr row (q_V sr) i.toNat (by omega) g3
    rw [← isS_V g1] at e1
    refine ⟨20, _, _, e1, agV_refl _, .inr ⟨1, _, 6, l + m, row', _, _, rfl, rfl, fun i' f hi hf => .of_eq ?_, fun p hp => by obtain rfl := List.mem_singleton.1 hp; simp⟩⟩
    unfold appRow
    by_cases hl : i' < l
    · rw [if_pos hl]; exact e2 i' f hl hf
    · rw [if_neg hl]
      have := e3 (i' - l) (by omega) f hf
      rw [show l + (i' - l) = i' by omega] at this
      exact this
  · cases h)
noncomputable def aSt : Nat → List PV → Heap → Option (Bool × PV × Heap)
  | 1, [.one (.ptr 0 0), .one (.int .i64 i), .one (.int .i64 x), .one (.int .i64 w)], [(0, .box [.int .i64 k, .view n 1 nr, .view m 1 sr, .int .i64 a, .int .i64 b, .int .i64 c, .int .i64 t, .nils])] =>
    some (q_dec (q_isS n sr ∧ 0 ≤ i ∧ q_stP n m (q_V sr) a b c t i.toNat x w 0), .tup [], [(1, .rows 50 6 m (q_sst (q_V sr) a b t i.toNat x w)), (0, mkB k n m nr sr a b c t (.os 1))])
  | 2, [.one (.ptr 0 0), .one (.int .i64 i), .one (.int .i64 x), .one (.int .i64 w)], [(0, .box [.int .i64 k, .view n 1 nr, .view m 1 sr, .int .i64 a, .int .i64 b, .int .i64 c, .int .i64 t, .os 1]), (1, .rows 50 6 l row)] =>
    some (q_dec (q_isS n sr ∧ 0 ≤ i ∧ q_stP n m (q_V sr) a b c t i.toNat x w l), .tup [], [(1, .rows 50 6 (l + m) (appRow l row (q_sst (q_V sr) a b t i.toNat x w))), (0, mkB k n m nr sr a b c t (.os 1))])
  | _, _, _ => none
noncomputable def O13 : Orac := addM 48 aSt O12
theorem sO13 : Sound prog gl O13 := add_ag (D := DY) sO12 sO11 mo (fun nb vs H v H' h => by
  unfold aSt at h
  split at h
  · rename_i i x w k n nr m sr a b c t
    obtain ⟨h1, h2, h3⟩ : q_dec (q_isS n sr ∧ 0 ≤ i ∧ q_stP n m (q_V sr) a b c t i.toNat x w 0) = true ∧ .tup [] = v ∧ [(1, OB.rows 50 6 m (q_sst (q_V sr) a b t i.toNat x w)), (0, mkB k n m nr sr a b c t (.os 1))] = H' := by simpa using h
    subst h2 h3
    obtain ⟨g1, g2, g3⟩ := q_dec_iff.1 h1
    obtain ⟨row', e1, e2, e3⟩ := st_ex1 n m k i x w a b c t nr (q_V sr) i.toNat (by omega) g3
    rw [← isS_V g1] at e1
    simp only [Nat.zero_add] at e1 e3
    exact ⟨20, _, _, e1, agV_refl _, .inr ⟨1, _, 6, m, row', _, _, rfl, rfl, fun i' f hi hf => .of_eq (e3 i' hi f hf), fun p hp => by obtain rfl := List.mem_singleton.1 hp; simp⟩⟩
  · rename_i i x w k n nr m sr a b c t l row
    obtain ⟨h1, h2, h3⟩ : q_dec (q_isS n sr ∧ 0 ≤ i ∧ q_stP n m (q_V sr) a b c t i.toNat x w l) = true ∧ .tup [] = v ∧ [(1, OB.rows 50 6 (l + m) (appRow l row (q_sst (q_V sr) a b t i.toNat x w))), (0, mkB k n m nr sr a b c t (.os 1))] = H' := by simpa using h
    subst h2 h3
    obtain ⟨g1, g2, g3⟩ := q_dec_iff.1 h1
    obtain ⟨row', e1, e2, e3⟩ := st_ex2 n m l k i x w a b c t nr row (q_V sr) i.toNat (by omega) g3
    rw [← isS_V g1] at e1
    refine ⟨20, _, _, e1, agV_refl _, .inr ⟨1, _, 6, l + m, row', _, _, rfl, rfl, fun i' f hi hf => .of_eq ?_, fun p hp => by obtain rfl := List.mem_singleton.1 hp; simp⟩⟩
    unfold appRow
    by_cases hl : i' < l
    · rw [if_pos hl]; exact e2 i' f hl hf
    · rw [if_neg hl]
      have := e3 (i' - l) (by omega) f hf
      rw [show l + (i' - l) = i' by omega] at this
      exact this
  · cases h)
end Go.Proofs.Ytfemkfodakfcmaa.Sh
