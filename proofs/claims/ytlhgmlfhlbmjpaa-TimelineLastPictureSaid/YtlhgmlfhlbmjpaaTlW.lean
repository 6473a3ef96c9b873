import Derived.Test.YtlhgmlfhlbmjpaaTlO
namespace Go.Proofs.Ytlhgmlfhlbmjpaa.Sh
open Go Go.RowKit Go.Proofs.Ytlhgmlfhlbmjpaa.Ev Go.Proofs.Try
set_option maxRecDepth 100000
set_option linter.unusedVariables false
/-! LastPicture: the law -/
/-- An item's state in State's answer. -/
theorem st_row_lp {n : Nat} {g : Nat → Nat → Int} {c a : Int} {i : Nat} (hi : i < q_sn n g) : ∃ v, v ∈ q_ol g n ∧ ∀ f, f < 4 → q_st n g c a i f = (q_it g (q_pr n (q_tm g) c a) n v).getD f 0 := by
  obtain ⟨k, hk, e⟩ := (so_P (n := q_sn n g) (B := q_sB g (q_pr n (q_tm g) c a) n (q_ol g n)) (q_sn n g) (Nat.le_refl _)).1 i hi
  have hk' : k < (q_ol g n).length := hk
  refine ⟨(q_ol g n)[k], List.getElem_mem _, fun f hf => ?_⟩
  have := e f hf
  unfold q_st
  rw [this]
  unfold q_sB
  rw [getD_lt hk']
theorem pt_full (d : Int) : q_pt d 1000 = d := by unfold q_pt; rw [Int.mul_comm]; exact Int.mul_tdiv_cancel_left d (by omega)
theorem se_rng {g : Nat → Nat → Int} {p : Nat → Int} {n : Nat} (hp : ∀ i, i < n → p i = 1000) (v : Int) : ∀ i, i ≤ n → 0 ≤ q_se g p v i ∧ q_se g p v i ≤ 1000 := by
  intro i
  induction i with
  | zero => intro _; simp [q_se]
  | succ i ih =>
    intro hi
    have h := ih (by omega)
    simp only [q_se]
    rw [hp i (by omega)]
    split
    · unfold q_s1 q_s0
      split
      · split <;> omega
      · split
        · split <;> omega
        · split <;> omega
    · exact h
theorem se_step {g : Nat → Nat → Int} {p : Nat → Int} {n : Nat} (hp : ∀ i, i < n → p i = 1000) {v : Int} {i : Nat} (hi : i < n) (hv : g i 0 = v) (hk : g i 1 ≠ 2) (hk2 : 0 ≤ g i 1 ∧ g i 1 ≤ 2) : q_se g p v (i + 1) = if g i 1 = 0 then 1000 else 0 := by
  have h := se_rng (g := g) hp v i (by omega)
  simp only [q_se]
  rw [if_pos ⟨hv, hk⟩, hp i hi]
  unfold q_s1
  by_cases h0 : g i 1 = 0
  · rw [if_pos ⟨h0, by omega⟩, if_pos h0]
    unfold q_s0
    split <;> omega
  · rw [if_neg (fun e => h0 e.1), if_pos ⟨by omega, by omega⟩, if_neg h0]
    unfold q_s0
    rw [if_neg (fun e => h0 e.2)]
    omega
abbrev itB (g : Nat → Nat → Int) (p : Nat → Int) (v : Int) (j : Nat) : OB := .box [.int .i64 v, .int .i64 (q_se g p v j), .int .i64 (q_sx g p 5 v j), .int .i64 (q_sx g p 6 v j)]
theorem lp_in (fl mm m k l : Nat) (G S C : Nat → Nat → Int) (i : Nat) (v s x y : Int) (p : Nat → Int) (hm : m ≤ 12) (hG : q_effP m G) (hp : ∀ i, i < m → p i = 1000) (hp2 : ∀ i, 0 ≤ p i ∧ p i ≤ 1000) (hs : s = q_se G p v m) (hx : x = q_sx G p 5 v m) (hy : y = q_sx G p 6 v m) (hi : i < k) (hk : k ≤ 12) :
    rounds (yLP fl pLP2) (kLP2 fl mm m k l G S C (i : Nat)) 20 (hLP2 m k G (i : Nat) ((0 : Nat) : Int)) (bLP2 k l S C v s x y v 1000 0 0) = rounds (yLP fl pLP) (kLP fl) mm (hLP m k G ((i + 1 : Nat) : Int)) (bLP k l S C) := by
  refine loop_ex (body := yLP fl pLP2) (K := kLP2 fl mm m k l G S C (i : Nat)) (σ := Unit) (fun j _ => hLP2 m k G (i : Nat) ((j : Nat) : Int)) (fun j _ => bLP2 k l S C v s x y v (q_se G p v j) (q_sx G p 5 v j) (q_sx G p 6 v j)) (fun _ _ => True) m (Z := fun z => z = rounds (yLP fl pLP) (kLP fl) mm (hLP m k G ((i + 1 : Nat) : Int)) (bLP k l S C)) ?_ ?_ 20 0 () (by omega) (by omega) trivial
  · intro j _ m1 hj _
    refine ⟨(), trivial, ?_⟩
    obtain ⟨a0, a1, a2, a3, a4, a5, a6, a7⟩ := hG.2 j hj
    have b5 := sx_le hG hp2 (o := 5) (.inl rfl) v j (by omega)
    have b6 := sx_le hG hp2 (o := 6) (.inr rfl) v j (by omega)
    rw [lp_j, if_pos (by simpa using hj), chk_true (by simp <;> omega), Int.toNat_natCast, W_nat (by omega)]
    by_cases hv : G j 0 = v
    · rw [if_neg (by simpa using hv)]
      by_cases h2 : G j 1 = 2
      · have e1 : q_se G p v (j + 1) = q_se G p v j := by simp only [q_se]; rw [if_neg (fun e => e.2 h2)]
        have e2 : ∀ o, q_sx G p o v (j + 1) = q_sx G p o v j + G j o := fun o => by simp only [q_sx]; rw [if_pos ⟨hv, h2⟩, hp j hj, pt_full]
        rw [if_pos (by simpa using h2), e1, e2, e2, W_id (n := q_sx G p 5 v j + G j 5) (by omega) (by omega), W_id (n := q_sx G p 6 v j + G j 6) (by omega) (by omega)]
      · have e1 := se_step hp hj hv h2 a1
        have e2 : ∀ o, q_sx G p o v (j + 1) = q_sx G p o v j := fun o => by simp only [q_sx]; rw [if_neg (fun e => h2 e.2)]
        rw [if_neg (by simpa using h2), e1, e2, e2]
        by_cases h0 : G j 1 = 0
        · rw [if_pos (by simpa using h0), if_pos h0]
        · rw [if_neg (by simpa using h0), if_neg h0]
    · have e1 : q_se G p v (j + 1) = q_se G p v j := by simp only [q_se]; rw [if_neg (fun e => hv e.1)]
      have e2 : ∀ o, q_sx G p o v (j + 1) = q_sx G p o v j := fun o => by simp only [q_sx]; rw [if_neg (fun e => hv e.1)]
      rw [if_pos (by simpa using hv), e1, e2, e2]
  · intro _ m1 _
    rw [lp_j, if_neg (by simp), if_neg (by rw [hs, hx, hy]; simp), W_nat (by omega)]
theorem lp_eq (n : Nat) (h0 : 0 < n) (g : Nat → Nat → Int) (J : Nat → Nat → PS) : callF prog gl DS 20 O18 0 4 [.one (.view n 7 (rj 7 g J))] [] = some (bl true, []) := by
  rw [lp_pre]
  generalize hr : q_row 7 (q_eff (q_num n 7 (rj 7 g J))) = row
  have hJ : q_isJ 7 row := ⟨q_eff (q_num n 7 (rj 7 g J)), _, hr.symm⟩
  have hm : 0 < min n 12 := by omega
  have hm12 : min n 12 ≤ 12 := by omega
  have hG := eff_P hm12 (q_num n 7 (rj 7 g J))
  generalize q_eff (q_num n 7 (rj 7 g J)) = G at *
  have e8 : q_num (min n 12) 7 row = cut (min n 12) 7 G := by rw [← hr]; exact num_rj
  generalize min n 12 = m at *
  have hGm : q_effP m (cut m 7 G) := ⟨hm12, fun i hi => by
    simpa only [cut_in hi (show 0 < 7 by omega), cut_in hi (show 1 < 7 by omega), cut_in hi (show 2 < 7 by omega), cut_in hi (show 3 < 7 by omega), cut_in hi (show 4 < 7 by omega), cut_in hi (show 5 < 7 by omega), cut_in hi (show 6 < 7 by omega)] using hG.2 i hi⟩
  rw [← e8] at hGm
  obtain ⟨_, _, hC, hl⟩ := cl_spec ⟨hm, hJ, hGm⟩
  have hW : W ((m : Int) + 1) = (m : Int) + 1 := W_id (by omega) (by omega)
  rw [if_pos (q_dec_iff.2 ⟨⟨g, J, rfl⟩, h0⟩), if_pos (q_dec_iff.2 ⟨hm, hJ, hGm⟩), if_pos (q_dec_iff.2 ⟨hm, hJ, hGm, by omega, by omega⟩), hW, if_neg (by simp <;> omega)]
  have hT := tm_P hGm
  rw [e8] at hT hGm ⊢
  generalize q_cn m row = l
  generalize q_cB m row = C
  subst hr
  have hsn : q_sn m (cut m 7 G) ≤ 12 := by have := ol_len (cut m 7 G) m; unfold q_sn; omega
  refine loop_ex (body := yLP 20 pLP) (K := kLP 20) (σ := Unit) (fun i _ => hLP m (q_sn m (cut m 7 G)) G ((i : Nat) : Int)) (fun _ _ => bLP (q_sn m (cut m 7 G)) l (q_st m (cut m 7 G) 200 0) C) (fun _ _ => True) (q_sn m (cut m 7 G)) (Z := fun z => z = some (bl true, [])) ?_ ?_ 20 0 () (by omega) (by omega) trivial
  · intro i _ mm hi _
    refine ⟨(), trivial, ?_⟩
    rw [lp_a, if_pos (by simpa using hi), chk_true (by simp <;> omega), chk_true (by simp <;> omega), Int.toNat_natCast]
    obtain ⟨v, hv, er⟩ := st_row_lp (c := 200) (a := 0) hi
    have r0 : q_st m (cut m 7 G) 200 0 i 0 = v := er 0 (by omega)
    have r1 : q_st m (cut m 7 G) 200 0 i 1 = q_se (cut m 7 G) (q_pr m (q_tm (cut m 7 G)) 200 0) v m := er 1 (by omega)
    have r2 : q_st m (cut m 7 G) 200 0 i 2 = q_sx (cut m 7 G) (q_pr m (q_tm (cut m 7 G)) 200 0) 5 v m := er 2 (by omega)
    have r3 : q_st m (cut m 7 G) 200 0 i 3 = q_sx (cut m 7 G) (q_pr m (q_tm (cut m 7 G)) 200 0) 6 v m := er 3 (by omega)
    have hp : ∀ j, j < m → q_pr m (q_tm (cut m 7 G)) 200 0 j = 1000 := fun j hj => by
      unfold q_pr
      have := hT.2 j hj
      rw [if_pos hj]
      unfold q_pg
      rw [if_pos (.inl (by omega))]
    rw [r0]
    refine lp_in 20 mm m _ l G _ C i v _ _ _ (q_pr m (q_tm (cut m 7 G)) 200 0) hm12 hG hp (fun j => pr_in hT j) ?_ ?_ ?_ hi hsn
    · rw [r1]; exact se_cg cutG _ v m (Nat.le_refl m)
    · rw [r2]; exact sx_cg cutG _ (by omega) v m (Nat.le_refl m)
    · rw [r3]; exact sx_cg cutG _ (by omega) v m (Nat.le_refl m)
  · intro _ mm _
    rw [lp_a, if_neg (by simp)]
/-! no effects -/
theorem sQ0 : Sound prog gl (upM (callF prog gl DS 10 (upM (callF prog gl DS 10 (upM (callF prog gl DS 10 noM)))))) := callF_ok (callF_ok (callF_ok none_ok mo 10) mo 10) mo 10
theorem ew0_raw (r : Nat → Nat → PS) : callF prog gl noD 10 O1 0 10 [.one (.view 0 7 r)] [] = (some ((PV.one PS.nils, []))) := by kernel_rfl
theorem cw0_raw  : callF prog gl DS 10 (upM (callF prog gl DS 10 (upM (callF prog gl DS 10 (upM (callF prog gl DS 10 noM)))))) 0 11 [.one .nils] [] = (some ((PV.tup [PV.one (PS.os (0 : Nat)), i64 ((0 : Int))], [((0 : Nat), OB.rows (3 : Nat) (1 : Nat) (1 : Nat) (litRow (1 : Nat) [PS.int IntKind.i64 (0 : Int)]))]))) := by kernel_rfl
theorem sw0_raw (a b : Int) : callF prog gl DS 10 (upM (callF prog gl DS 10 (upM (callF prog gl DS 10 (upM (callF prog gl DS 10 noM)))))) 0 13 [.one .nils, i64 a, i64 b] [] = (if (bif bif bif decide (a < (0 : Int)) then true else decide (a > (200 : Int)) then true else decide (b < (0 : Int)) then true else decide (b > (10000000 : Int))) = true then (some ((PV.tup [PV.one PS.nils, i64 ((2 : Int))], []))) else (some ((PV.tup [PV.one PS.nils, i64 ((0 : Int))], [])))) := by kernel_rfl
noncomputable def O40 : Orac := addN 10 (fun nb vs H => match nb, vs, H with
  | 0, [.one (.view 0 7 r)], [] => some (true, .one .nils, [])
  | _, _, _ => none) O18
theorem sO40 : Sound prog gl O40 := addN_ok sO18 <| add_ok (D := noD) sO18 sO1 mo (fun nb vs H v H' h => by
  split at h
  · obtain ⟨h1, h2⟩ : .one .nils = v ∧ [] = H' := by simpa using h
    subst h1 h2
    exact ⟨10, ew0_raw _⟩
  · cases h)
noncomputable def O41 : Orac := addN 11 (fun nb vs H => match nb, vs, H with
  | 0, [.one .nils], [] => some (true, .tup [.one (.os 0), i64 0], [(0, .rows 3 1 1 (litRow 1 [.int .i64 0]))])
  | _, _, _ => none) O40
theorem sO41 : Sound prog gl O41 := addN_ok sO40 <| add_ok (D := DS) sO40 sQ0 mo (fun nb vs H v H' h => by
  split at h
  · obtain ⟨h1, h2⟩ : .tup [.one (.os 0), i64 0] = v ∧ [(0, OB.rows 3 1 1 (litRow 1 [PS.int .i64 0]))] = H' := by simpa using h
    subst h1 h2
    exact ⟨10, cw0_raw⟩
  · cases h)
noncomputable def O42 : Orac := addN 13 (fun nb vs H => match nb, vs, H with
  | 0, [.one .nils, .one (.int .i64 a), .one (.int .i64 b)], [] => some (q_dec ((0 ≤ a ∧ a ≤ 200) ∧ 0 ≤ b ∧ b ≤ 10000000), .tup [.one .nils, i64 0], [])
  | _, _, _ => none) O41
theorem sO42 : Sound prog gl O42 := addN_ok sO41 <| add_ok (D := DS) sO41 sQ0 mo (fun nb vs H v H' h => by
  split at h
  · rename_i a b
    obtain ⟨h1, h2, h3⟩ : q_dec ((0 ≤ a ∧ a ≤ 200) ∧ 0 ≤ b ∧ b ≤ 10000000) = true ∧ .tup [.one .nils, i64 0] = v ∧ [] = H' := by simpa using h
    subst h2 h3
    have := q_dec_iff.1 h1
    exact ⟨10, (sw0_raw a b).trans (if_neg (by simp <;> omega))⟩
  · cases h)
theorem lp_0 (r : Nat → Nat → PS) : callF prog gl DS 20 O42 0 4 [.one (.view 0 7 r)] [] = (if (q_dec (((0 : Int) ≤ (200 : Int) ∧ (200 : Int) ≤ (200 : Int)) ∧ (0 : Int) ≤ (0 : Int) ∧ (0 : Int) ≤ (10000000 : Int))) = true then (some ((PV.one (PS.bool true), []))) else none) := by kernel_rfl
theorem lp_any (n : Nat) (g : Nat → Nat → Int) (J : Nat → Nat → PS) : callF prog gl DS 20 O18 0 4 [.one (.view n 7 (rj 7 g J))] [] = some (bl true, []) ∨ callF prog gl DS 20 O42 0 4 [.one (.view n 7 (rj 7 g J))] [] = some (bl true, []) := by
  cases n with
  | zero => exact .inr ((lp_0 _).trans (if_pos (q_dec_iff.2 ⟨by omega, by omega⟩)))
  | succ n => exact .inl (lp_eq (n + 1) (by omega) g J)
end Go.Proofs.Ytlhgmlfhlbmjpaa.Sh
