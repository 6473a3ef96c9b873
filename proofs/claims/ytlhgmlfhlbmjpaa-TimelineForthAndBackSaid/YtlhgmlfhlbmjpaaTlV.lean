import Derived.Test.YtlhgmlfhlbmjpaaTlU
namespace Go.Proofs.Ytlhgmlfhlbmjpaa.Sh
open Go Go.RowKit Go.Proofs.Ytlhgmlfhlbmjpaa.Ev Go.Proofs.Try
set_option maxRecDepth 100000
set_option linter.unusedVariables false
/-! TimelineForthAndBack -/
theorem hb_r (fl mm m lb : Nat) (G T B : Nat → Nat → Int) (x : Int) : rounds (yHB fl pFB2) (kHB2 fl) (mm + 1) [(72, none, i64 0), (71, none, i64 0), (70, none, .one .nils), (11, none, i64 0), (10, none, .one (.os 61)), (9, none, i64 0), (8, none, .one .nils), (7, none, i64 0), (6, none, i64 0), (5, none, .one (.os 24)), (1, none, i64 x), (0, none, .one (.view (m + 1) 7 (q_row 7 G))), (4, none, bl false)] [(61, .rows 35 4 lb (q_row 4 B)), (24, .rows 44 3 (m + 1) (q_row 3 T))] = (some ((PV.one (PS.bool true), []))) := by kernel_rfl
theorem eff_ok (n : Nat) (g : Nat → Nat → Int) : q_effP (min n 12) (q_eff g) := eff_P (by omega) g
theorem fb_one (n : Nat) (h0 : 0 < n) (g : Nat → Nat → Int) (J : Nat → Nat → PS) (a : Int) (h : q_tm (cut (min n 12) 7 (q_eff (cut n 7 g))) 0 0 = 0) : callF prog gl DS 20 O35 0 5 [.one (.view n 7 (rj 7 g J)), i64 a] [] = some (bl true, []) := by
  rw [gb_pre]
  have e7 : q_num n 7 (rj 7 g J) = cut n 7 g := num_rj
  have e8 : ∀ m, q_num m 7 (q_row 7 (q_eff (cut n 7 g))) = cut m 7 (q_eff (cut n 7 g)) := fun m => num_rj
  rw [e7, e8]
  have hG := eff_ok n (cut n 7 g)
  generalize q_eff (cut n 7 g) = G at *
  have hx := within_in a 0 1500 (by omega)
  rw [if_pos (q_dec_iff.2 ⟨⟨g, J, rfl⟩, h0⟩), if_pos (q_dec_iff.2 ⟨by omega, ⟨G, _, rfl⟩, effP_cut' hG (Nat.le_refl _)⟩), if_neg (by simp)]
  refine (gb_on 19 (min n 12) 0 G _ _ (by omega) (by omega) h).trans ?_
  exact gb_all (min n 12) G _ hx (by omega) hG (min n 12 - 1) (0 + 1) 19 (by omega) (by omega) (by omega) (fun i hi => by
    obtain rfl : i = 0 := by omega
    exact h)
theorem fb_none (n : Nat) (g : Nat → Nat → Int) (J : Nat → Nat → PS) (a : Int) (h : q_tm (cut (min (n + 1) 12) 7 (q_eff (cut (n + 1) 7 g))) 0 0 ≠ 0) : callF prog gl DS 20 O38 0 5 [.one (.view (n + 1) 7 (rj 7 g J)), i64 a] [] = some (bl true, []) := by
  rw [hb_pre]
  have e7 : q_num (n + 1) 7 (rj 7 g J) = cut (n + 1) 7 g := num_rj
  have e8 : ∀ m, q_num m 7 (q_row 7 (q_eff (cut (n + 1) 7 g))) = cut m 7 (q_eff (cut (n + 1) 7 g)) := fun m => num_rj
  rw [e7, e8]
  have hG := eff_ok (n + 1) (cut (n + 1) 7 g)
  generalize q_eff (cut (n + 1) 7 g) = G at *
  have hx := within_in a 0 1500 (by omega)
  rw [if_pos (q_dec_iff.2 ⟨⟨g, J, rfl⟩, by omega⟩), if_pos (q_dec_iff.2 ⟨by omega, ⟨G, _, rfl⟩, effP_cut' hG (Nat.le_refl _)⟩), if_neg (by simp)]
  obtain ⟨m, hm⟩ : ∃ m, min (n + 1) 12 = m + 1 := ⟨min (n + 1) 12 - 1, by omega⟩
  rw [hm] at hG h ⊢
  refine (hb_k 20 19 m G (q_tm (cut (m + 1) 7 G)) (q_within a 0 1500)).trans ?_
  have e9 : ∀ m, q_num m 7 (q_row 7 G) = cut m 7 G := fun m => num_rj
  rw [e9, chk_true (by simp <;> omega), if_neg (by simp [h]), if_pos (q_dec_iff.2 ⟨by omega, by omega⟩), if_pos (q_dec_iff.2 ⟨by omega, ⟨G, _, rfl⟩, effP_cut' hG (Nat.le_refl _), by omega, by omega⟩)]
  exact hb_r 20 19 m _ G _ _ _
theorem fb_zero (r : Nat → Nat → PS) (a : Int) : callF prog gl DS 20 O38 0 5 [.one (.view 0 7 r), i64 a] [] = some (bl true, []) := by
  have hx := within_in a 0 1500 (by omega)
  rw [hb_0, if_pos (q_dec_iff.2 ⟨by omega, by omega⟩), if_pos (q_dec_iff.2 ⟨by omega, by omega⟩)]
theorem fb_any (n : Nat) (g : Nat → Nat → Int) (J : Nat → Nat → PS) (a : Int) : callF prog gl DS 20 O35 0 5 [.one (.view n 7 (rj 7 g J)), i64 a] [] = some (bl true, []) ∨ callF prog gl DS 20 O38 0 5 [.one (.view n 7 (rj 7 g J)), i64 a] [] = some (bl true, []) := by
  cases n with
  | zero => exact .inr (fb_zero _ a)
  | succ n =>
    by_cases h : q_tm (cut (min (n + 1) 12) 7 (q_eff (cut (n + 1) 7 g))) 0 0 = 0
    · exact .inl (fb_one (n + 1) (by omega) g J a h)
    · exact .inr (fb_none n g J a h)
end Go.Proofs.Ytlhgmlfhlbmjpaa.Sh
