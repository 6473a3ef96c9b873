import Derived.Test.YtlhgmlfhlbmjpaaTlM
namespace Go.Proofs.Ytlhgmlfhlbmjpaa.Sh
open Go Go.RowKit Go.Proofs.Ytlhgmlfhlbmjpaa.Ev Go.Proofs.Try
set_option maxRecDepth 100000
set_option linter.unusedVariables false
/-! TimelineOverAtEnd -/
theorem pr_end {m l : Nat} {T B : Nat → Nat → Int} (hC : ClQ T m l B) (hT : TimeP m T) (k : Nat) (hk : k < l) {x : Int} (hx : B k 0 ≤ x) : q_pr m T k x = fun i => if i < m then (if T i 0 ≤ k then 1000 else 0) else 0 := by
  funext i
  unfold q_pr
  by_cases hi : i < m
  · rw [if_pos hi, if_pos hi]
    obtain ⟨_, _, h3⟩ := hC
    obtain ⟨h4, h5⟩ := h3 i hi
    obtain ⟨⟨t1, t2⟩, t3, t4, t5⟩ := hT.2 i hi
    unfold q_pg
    by_cases h : T i 0 ≤ k
    · rw [if_pos h]
      by_cases e : T i 0 = k
      · have e2 : (T i 0).toNat = k := by omega
        rw [e2] at h5
        rw [if_pos (.inr ⟨e, by omega⟩)]
      · rw [if_pos (.inl (by omega))]
    · rw [if_neg h, if_neg (by omega), if_pos (.inl (by omega))]
  · rw [if_neg hi, if_neg hi]
theorem oe_eq (n : Nat) (h0 : 0 < n) (g : Nat → Nat → Int) (J : Nat → Nat → PS) (a b : Int) : callF prog gl DS 10 O18 0 3 [.one (.view n 7 (rj 7 g J)), i64 a, i64 b] [] = some (bl true, []) := by
  rw [oe_raw]
  generalize hr : q_row 7 (q_eff (q_num n 7 (rj 7 g J))) = row
  have hJ : q_isJ 7 row := ⟨q_eff (q_num n 7 (rj 7 g J)), _, hr.symm⟩
  have hm : 0 < min n 12 := by omega
  have hm12 : min n 12 ≤ 12 := by omega
  have hG : q_effP (min n 12) (q_num (min n 12) 7 row) := by
    have : q_num (min n 12) 7 row = cut (min n 12) 7 (q_eff (q_num n 7 (rj 7 g J))) := by rw [← hr]; exact num_rj
    rw [this]
    obtain ⟨_, h2⟩ := eff_P hm12 (q_num n 7 (rj 7 g J))
    refine ⟨hm12, fun i hi => ?_⟩
    have c := fun f hf => cut_in (n := min n 12) (e := 7) (B := q_eff (q_num n 7 (rj 7 g J))) (j := f) hi hf
    rw [c 0 (by omega), c 1 (by omega), c 2 (by omega), c 3 (by omega), c 4 (by omega), c 5 (by omega), c 6 (by omega)]
    exact h2 i hi
  obtain ⟨_, _, hC, hl⟩ := cl_spec ⟨hm, hJ, hG⟩
  have hT := tm_P hG
  generalize hGG : q_num (min n 12) 7 row = G at *
  generalize hBB : q_cB (min n 12) row = B at *
  generalize hLL : q_cn (min n 12) row = l at *
  generalize hMM : min n 12 = m at *
  have hl1 : 1 ≤ l := hC.1
  have eW : W ((l : Int) - 1) = (l : Int) - 1 := W_id (by omega) (by omega)
  obtain ⟨k1, k2⟩ := within_in a 0 ((l : Int) - 1) (by omega)
  obtain ⟨b1, b2⟩ := within_in b 0 5000 (by omega)
  obtain ⟨k, hk⟩ : ∃ k : Nat, q_within a 0 ((l : Int) - 1) = k := ⟨(q_within a 0 ((l : Int) - 1)).toNat, by omega⟩
  have hkl : k < l := by omega
  obtain ⟨c1, c2⟩ := hC.2.1 k hkl
  have eq1 : q_st m G (k : Int) (B k 0) = q_st m G (k : Int) (B k 0 + q_within b 0 5000) := by
    unfold q_st
    rw [pr_end hC hT k hkl (Int.le_refl _), pr_end hC hT k hkl (by omega)]
  have hsn : q_sn m G ≤ 12 := by have := ol_len G m; unfold q_sn; omega
  simp only [eW, hk, Int.toNat_natCast]
  have eW2 : W (B k 0 + q_within b 0 5000) = B k 0 + q_within b 0 5000 := W_id (by omega) (by omega)
  rw [if_pos (q_dec_iff.2 ⟨⟨g, J, rfl⟩, h0⟩), if_pos (q_dec_iff.2 ⟨hm, hJ, hG⟩), if_neg (by simp <;> omega)]
  simp only [eW2]
  rw [if_pos (by
    have e1 : q_small 1000000000 ((l : Int) - 1) = true := small_iff.2 (by omega)
    rw [e1, decide_eq_true (show (0 : Int) ≤ (l : Int) - 1 by omega)]; rfl), chk_true (by simp <;> omega), chk_true (by simp <;> omega), if_pos (q_dec_iff.2 ⟨hm, hJ, hG, by omega, by omega⟩), chk_true (by simp <;> omega), chk_true (by simp <;> omega), if_pos (q_dec_iff.2 ⟨hm, hJ, hG, by omega, by omega⟩), if_pos (q_dec_iff.2 ⟨trivial, hsn, _, _, _, _, rfl, rfl, fun i f hi hf => by rw [eq1]⟩)]
/-! ... and of no effects -/
theorem ef0_raw (r : Nat → Nat → PS) : callF prog gl noD 10 O1 0 10 [.one (.view 0 7 r)] [] = (some ((PV.one PS.nils, []))) := by kernel_rfl
theorem cl0_raw  : callF prog gl noD 10 (upM (callF prog gl noD 10 (upM (callF prog gl noD 10 noM)))) 0 11 [.one .nils] [] = (some ((PV.tup [PV.one (PS.os (0 : Nat)), i64 ((0 : Int))], [((0 : Nat), OB.rows (3 : Nat) (1 : Nat) (1 : Nat) (litRow (1 : Nat) [PS.int IntKind.i64 (0 : Int)]))]))) := by kernel_rfl
theorem sC0 : Sound prog gl (upM (callF prog gl noD 10 (upM (callF prog gl noD 10 noM)))) := callF_ok (callF_ok none_ok mo 10) mo 10
theorem st0_raw (a b : Int) : callF prog gl DS 10 (upM (callF prog gl DS 10 (upM (callF prog gl DS 10 (upM (callF prog gl DS 10 noM)))))) 0 13 [.one .nils, i64 a, i64 b] [] = (if (bif bif bif decide (a < (0 : Int)) then true else decide (a > (200 : Int)) then true else decide (b < (0 : Int)) then true else decide (b > (10000000 : Int))) = true then (some ((PV.tup [PV.one PS.nils, i64 ((2 : Int))], []))) else (some ((PV.tup [PV.one PS.nils, i64 ((0 : Int))], [])))) := by kernel_rfl
theorem sS0 : Sound prog gl (upM (callF prog gl DS 10 (upM (callF prog gl DS 10 (upM (callF prog gl DS 10 noM)))))) := callF_ok (callF_ok (callF_ok none_ok mo 10) mo 10) mo 10
theorem eq0_raw  : callF prog gl noD 10 O1 0 14 [.one .nils, .one .nils] [] = (some ((PV.one (PS.bool true), []))) := by kernel_rfl
noncomputable def O19 : Orac := addM 10 (fun nb vs H => match nb, vs, H with
  | 0, [.one (.view 0 7 r)], [] => some (true, .one .nils, [])
  | _, _, _ => none) O18
theorem sO19 : Sound prog gl O19 := add_ok (D := noD) sO18 sO1 mo (fun nb vs H v H' h => by
  split at h
  · obtain ⟨h1, h2⟩ : .one .nils = v ∧ [] = H' := by simpa using h
    subst h1 h2
    exact ⟨10, ef0_raw _⟩
  · cases h)
noncomputable def O20 : Orac := addM 11 (fun nb vs H => match nb, vs, H with
  | 0, [.one .nils], [] => some (true, .tup [.one (.os 0), i64 0], [(0, .rows 3 1 1 (litRow 1 [.int .i64 0]))])
  | _, _, _ => none) O19
theorem sO20 : Sound prog gl O20 := add_ok (D := noD) sO19 sC0 mo (fun nb vs H v H' h => by
  split at h
  · obtain ⟨h1, h2⟩ : .tup [.one (.os 0), i64 0] = v ∧ [(0, OB.rows 3 1 1 (litRow 1 [PS.int .i64 0]))] = H' := by simpa using h
    subst h1 h2
    exact ⟨10, cl0_raw⟩
  · cases h)
noncomputable def O21 : Orac := addM 13 (fun nb vs H => match nb, vs, H with
  | 0, [.one .nils, .one (.int .i64 a), .one (.int .i64 b)], [] => some (q_dec ((0 ≤ a ∧ a ≤ 200) ∧ 0 ≤ b ∧ b ≤ 10000000), .tup [.one .nils, i64 0], [])
  | _, _, _ => none) O20
theorem sO21 : Sound prog gl O21 := add_ok (D := DS) sO20 sS0 mo (fun nb vs H v H' h => by
  split at h
  · rename_i a b
    obtain ⟨h1, h2, h3⟩ : q_dec ((0 ≤ a ∧ a ≤ 200) ∧ 0 ≤ b ∧ b ≤ 10000000) = true ∧ .tup [.one .nils, i64 0] = v ∧ [] = H' := by simpa using h
    subst h2 h3
    have := q_dec_iff.1 h1
    exact ⟨10, (st0_raw a b).trans (if_neg (by simp <;> omega))⟩
  · cases h)
noncomputable def O22 : Orac := addM 14 (fun nb vs H => match nb, vs, H with
  | 0, [.one .nils, .one .nils], [] => some (true, bl true, [])
  | _, _, _ => none) O21
theorem sO22 : Sound prog gl O22 := add_ok (D := noD) sO21 sO1 mo (fun nb vs H v H' h => by
  split at h
  · obtain ⟨h1, h2⟩ : bl true = v ∧ [] = H' := by simpa using h
    subst h1 h2
    exact ⟨10, eq0_raw⟩
  · cases h)
theorem oe0_raw (r : Nat → Nat → PS) (a b : Int) : callF prog gl DS 10 O22 0 3 [.one (.view 0 7 r), i64 a, i64 b] [] = (chk true (decide ((0 : Int) ≤ q_within a (0 : Int) (0 : Int)) && decide (q_within a (0 : Int) (0 : Int) < (1 : Int))) (chk true (decide ((q_within a (0 : Int) (0 : Int)).toNat < (1 : Nat)) && true) (if (q_dec (((0 : Int) ≤ q_within a (0 : Int) (0 : Int) ∧ q_within a (0 : Int) (0 : Int) ≤ (200 : Int)) ∧ (0 : Int) ≤ (0 : Int) ∧ (0 : Int) ≤ (10000000 : Int))) = true then (chk true (decide ((0 : Int) ≤ q_within a (0 : Int) (0 : Int)) && decide (q_within a (0 : Int) (0 : Int) < (1 : Int))) (chk true (decide ((q_within a (0 : Int) (0 : Int)).toNat < (1 : Nat)) && true) (if (q_dec (((0 : Int) ≤ q_within a (0 : Int) (0 : Int) ∧ q_within a (0 : Int) (0 : Int) ≤ (200 : Int)) ∧ (0 : Int) ≤ W ((0 : Int) + q_within b (0 : Int) (5000 : Int)) ∧ W ((0 : Int) + q_within b (0 : Int) (5000 : Int)) ≤ (10000000 : Int))) = true then (some ((PV.one (PS.bool true), []))) else none))) else none))) := by kernel_rfl
theorem oe0_eq (r : Nat → Nat → PS) (a b : Int) : callF prog gl DS 10 O22 0 3 [.one (.view 0 7 r), i64 a, i64 b] [] = some (bl true, []) := by
  obtain ⟨k1, k2⟩ := within_in a 0 0 (by omega)
  obtain ⟨b1, b2⟩ := within_in b 0 5000 (by omega)
  have eW2 : W (0 + q_within b 0 5000) = q_within b 0 5000 := by rw [Int.zero_add]; exact W_id (by omega) (by omega)
  rw [oe0_raw, chk_true (by simp <;> omega), chk_true (by simp <;> omega), if_pos (q_dec_iff.2 ⟨by omega, by omega⟩), chk_true (by simp <;> omega), chk_true (by simp <;> omega), eW2, if_pos (q_dec_iff.2 ⟨by omega, by omega⟩)]
end Go.Proofs.Ytlhgmlfhlbmjpaa.Sh
