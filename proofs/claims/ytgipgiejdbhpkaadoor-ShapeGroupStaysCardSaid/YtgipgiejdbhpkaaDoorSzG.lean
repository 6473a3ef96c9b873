import Derived.Test.YtgipgiejdbhpkaaDoorSyC
namespace Go.Proofs.YtgipgiejdbhpkaaDoor.Sh
open Go Go.RowKit Go.Proofs.YtgipgiejdbhpkaaDoor.Ev Go.Proofs.Tryd
set_option maxRecDepth 1000000
set_option linter.unusedVariables false
/-! alike's and Group's errors -/
theorem sM1 : Sound prog gl (upM (callF prog gl noD 1 noM)) := callF_ok none_ok mo 1
theorem fn_raw (x : Int) : callF prog gl noD 1 (upM (callF prog gl noD 1 noM)) 0 18 [.one .nils, i64 x] [] = (some ((i64 ((-1 : Int)), []))) := by kernel_rfl
noncomputable def Oe1 : Orac := addN 18 (fun nb vs H => match nb, vs, H with
  | 0, [.one .nils, .one (.int .i64 x)], [] => some (true, i64 (-1), [])
  | _, _, _ => none) O32b
theorem sOe1 : Sound prog gl Oe1 := addN_ok sO32b <| add_ok (D := noD) sO32b sM1 mo (fun nb vs H v H' h => by
  split at h
  · rename_i x
    obtain ⟨h1, h2⟩ : i64 (-1) = v ∧ [] = H' := by simpa using h
    subst h1 h2
    exact ⟨1, fn_raw x⟩
  · cases h)
theorem ae_vn (n : Nat) (row : Nat → Nat → PS) : callF prog gl DS 2 Oe1 0 23 [.one (.view n 12 row), .one .nils, i64 1] [] = (if (q_dec (q_isRw row ∧ n ≤ (100000 : Nat))) = true then (if (q_chk n (q_nu n row) != (0 : Int)) = true then (some ((PV.tup [PV.one PS.nils, i64 ((q_chk n (q_nu n row)))], []))) else (some ((PV.tup [PV.one PS.nils, i64 ((7 : Int))], [])))) else none) := by kernel_rfl
theorem ae_nn  : callF prog gl DS 2 Oe1 0 23 [.one .nils, .one .nils, i64 1] [] = (some ((PV.tup [PV.one PS.nils, i64 ((7 : Int))], []))) := by kernel_rfl
theorem ae_nv (m : Nat) (B : Nat → Nat → Int) (J : Nat → Nat → PS) : callF prog gl DS 2 Oe1 0 23 [.one .nils, .one (.view (m + 1) 1 (rj 1 B J)), i64 1] [] = (if (decide ((0 : Int) < (↑(m + (1 : Nat)) : Int))) = true then (chk true (true && decide ((0 : Int) < (↑(m + (1 : Nat)) : Int))) (some ((PV.tup [PV.one PS.nils, i64 ((7 : Int))], [])))) else none) := by kernel_rfl
def q_alE (n : Nat) (g B : Nat → Nat → Int) : Nat → Nat → Int
  | 0, _ => 0
  | r + 1, i => if q_al1 n g B i ≠ 0 then q_al1 n g B i else q_alE n g B r (i + 1)
theorem al1_v {n : Nat} {g B : Nat → Nat → Int} {i : Nat} : q_al1 n g B i = 0 ∨ q_al1 n g B i = 7 ∨ q_al1 n g B i = 6 ∨ q_al1 n g B i = 14 := by
  unfold q_al1
  split
  · omega
  · split
    · omega
    · split <;> omega
theorem al_bad (fl mm n m i : Nat) (g : Nat → Nat → Int) (sx : Nat → Nat → ByteArray) (jx : Nat → Nat → PS) (B C : Nat → Nat → Int) (J K : Nat → Nat → PS) (a : Int) (hi : i < m) (hm : m ≤ 12) (hn : n ≤ 1000) (h0 : 0 ≤ q_fd n g (B 0 0)) (h : q_al1 n g B i ≠ 0) :
    rounds (yAl fl) (kAl fl) (mm + 1) (hAl n m (rwj g sx jx) (rj 1 B J) (.os 57) a (i : Nat)) [(57, .rows 3 1 i (rj 1 C K))] = some (.tup [.one .nils, i64 (q_al1 n g B i)], []) := by
  have e : ∀ x, q_fd n (q_nu n (rwj g sx jx)) x = q_fd n g x := fun x => by rw [nu_rwj]; exact fd_cg (fun k hk => cutG_in hk (by omega))
  have e2 : q_fd i (q_num i 1 (subRow none 0 (rj 1 B J))) (B i 0) = q_fd i B (B i 0) := fd_cg (fun k hk => by
    have : q_num i 1 (subRow none 0 (rj 1 B J)) = cut i 1 B := num_rj
    rw [this]; exact cut_in hk (by omega))
  have r1 := fd_rng n g (B i 0)
  have r0 := fd_rng n g (B 0 0)
  rw [al_st]
  simp only [e, Int.toNat_natCast, Nat.sub_zero, e2]
  rw [if_pos (by simp <;> omega), chk_true (by simp <;> omega), if_pos (q_dec_iff.2 ⟨⟨g, sx, jx, rfl⟩, by omega⟩)]
  unfold q_al1 at h ⊢
  by_cases p1 : q_fd n g (B i 0) < 0
  · rw [if_pos p1, if_pos (by simpa using p1)]
  · rw [if_neg p1] at h
    rw [if_neg p1, if_neg (by simpa using p1), chk_true (by simp <;> omega), if_pos (q_dec_iff.2 ⟨⟨B, J, rfl⟩, by omega⟩)]
    by_cases p2 : 0 ≤ q_fd i B (B i 0)
    · rw [if_pos p2, if_pos (by simpa using p2)]
    · rw [if_neg p2] at h
      rw [if_neg p2, if_neg (by simpa using p2), chk_true (by simp <;> omega), chk_true (by simp <;> omega), if_pos (q_dec_iff.2 ⟨⟨g, sx, jx, rfl⟩, by omega⟩), chk_true (by simp <;> omega)]
      by_cases p3 : g (q_fd n g (B i 0)).toNat 1 ≠ g (q_fd n g (B 0 0)).toNat 1
      · rw [if_pos p3, if_pos (by simpa using p3)]
      · rw [if_neg p3] at h; exact absurd rfl h
theorem al_errs (n m : Nat) (g : Nat → Nat → Int) (sx : Nat → Nat → ByteArray) (jx : Nat → Nat → PS) (B : Nat → Nat → Int) (J : Nat → Nat → PS) (hm : m ≤ 12) (hn : n ≤ 1000) (h0 : 0 ≤ q_fd n g (B 0 0)) : ∀ (r i mm : Nat) (C : Nat → Nat → Int) (K : Nat → Nat → PS), 0 < i → i + r = m → r < mm → q_alE n g B r i ≠ 0 →
    rounds (yAl 14) (kAl 14) mm (hAl n m (rwj g sx jx) (rj 1 B J) (.os 57) 1 (i : Nat)) [(57, .rows 3 1 i (rj 1 C K))] = some (.tup [.one .nils, i64 (q_alE n g B r i)], []) := by
  intro r
  induction r with
  | zero => intro i mm C K _ _ _ h; exact absurd rfl h
  | succ r ih =>
    intro i mm C K hi0 hi hmm h
    obtain ⟨mm, rfl⟩ : ∃ m', mm = m' + 1 := ⟨mm - 1, by omega⟩
    unfold q_alE at h ⊢
    by_cases c : q_al1 n g B i ≠ 0
    · rw [if_pos c]
      exact al_bad 14 mm n m i g sx jx B C J K 1 (by omega) hm hn h0 c
    · rw [if_neg c] at h ⊢
      obtain ⟨K', e⟩ := al_step 14 mm n m i g sx jx B C J K 1 hi0 (by omega) hm hn h0 (by omega)
      rw [e]
      exact ih (i + 1) mm _ K' (by omega) (by omega) (by omega) h
theorem ae_eq (n m : Nat) (g : Nat → Nat → Int) (sx : Nat → Nat → ByteArray) (jx : Nat → Nat → PS) (B : Nat → Nat → Int) (J : Nat → Nat → PS) (hn : q_chk n g = 0) (hm : m ≤ 12) (h : q_alE n g B m 0 ≠ 0) :
    callF prog gl DS 14 O20 0 23 [.one (.view n 12 (rwj g sx jx)), .one (.view m 1 (rj 1 B J)), i64 1] [] = some (.tup [.one .nils, i64 (q_alE n g B m 0)], []) := by
  have hn1 := (chk_ok_iff hn).1
  have e : ∀ x, q_fd n (q_nu n (rwj g sx jx)) x = q_fd n g x := fun x => by rw [nu_rwj]; exact fd_cg (fun k hk => cutG_in hk (by omega))
  have ec : q_chk n (q_nu n (rwj g sx jx)) = 0 := by rw [nu_rwj, chk_cg (g' := g) (fun k j hk hj => cutG_in hk hj)]; exact hn
  obtain ⟨m, rfl⟩ : ∃ k, m = k + 1 := by
    cases m with
    | zero => exact absurd rfl h
    | succ m => exact ⟨m, rfl⟩
  have r0 := fd_rng n g (B 0 0)
  rw [al_pre, ec, if_pos (q_dec_iff.2 ⟨⟨g, sx, jx, rfl⟩, by omega⟩), if_neg (by simp), if_neg (by simp; omega)]
  have one := al_one 14 13 n (m + 1) g sx jx B J 1
  simp only [e] at one
  rw [if_pos (by simp <;> omega), chk_true (by simp <;> omega), if_pos (q_dec_iff.2 ⟨⟨g, sx, jx, rfl⟩, by omega⟩)] at one
  unfold q_alE at h ⊢
  by_cases p1 : q_fd n g (B 0 0) < 0
  · have e1 : q_al1 n g B 0 = 7 := by unfold q_al1; rw [if_pos p1]
    rw [if_pos (by simpa using p1)] at one
    rw [e1, if_pos (by decide)]
    exact one
  · have e1 : q_al1 n g B 0 = 0 := by
      unfold q_al1
      rw [if_neg p1, if_neg (by have := fd_rng 0 B (B 0 0); omega), if_neg (fun q => q rfl)]
    rw [e1, if_neg (fun q => q rfl)] at h ⊢
    rw [if_neg (by simpa using p1), if_pos (q_dec_iff.2 ⟨⟨B, J, rfl⟩, by omega⟩), chk_true (by simp <;> omega), chk_true (by simp <;> omega), if_pos (q_dec_iff.2 ⟨⟨g, sx, jx, rfl⟩, by omega⟩), chk_true (by simp <;> omega), if_neg (by simp)] at one
    refine one.trans ?_
    obtain ⟨K1, e1⟩ := app_rj 1 0 (fun _ _ => 0) (fun _ _ => .nilp) [q_fd n g (B 0 0)] rfl
    have e1' : appRow 0 (fun _ _ => PS.nilp) (litRow 1 [PS.int .i64 (q_fd n g (B 0 0))]) = rj 1 (appB 0 (fun _ _ => 0) [q_fd n g (B 0 0)]) K1 := by
      rw [← e1]; funext i j; rw [appRow_eq, appRow_eq, if_neg (by omega), if_neg (by omega)]; rfl
    rw [e1']
    exact al_errs n (m + 1) g sx jx B J hm hn1 (by omega) m 1 13 _ K1 (by omega) (by omega) (by omega) h
theorem alE_cg {n m : Nat} {g g' : Nat → Nat → Int} {B B' : Nat → Nat → Int} (hg : ∀ k j, k < n → j < 10 → g k j = g' k j) (hB : ∀ k, k < m → B k 0 = B' k 0) : ∀ r i, i + r = m → q_alE n g B r i = q_alE n g' B' r i := by
  intro r
  induction r with
  | zero => intro i _; rfl
  | succ r ih =>
    intro i hi
    unfold q_alE
    rw [al1_cg hg hB (i := i) (by omega), ih (i + 1) (by omega)]
def q_aeP (n m : Nat) (row r2 : Nat → Nat → PS) : Prop := (q_isRw row ∧ q_chk n (q_nu n row) = 0) ∧ (m ≤ 12 ∧ q_isJ 1 r2) ∧ q_alE n (q_nu n row) (q_num m 1 r2) m 0 ≠ 0
noncomputable def Oe2 : Orac := addM 23 (fun nb vs H => match nb, vs, H with
  | 0, [.one (.view n 12 row), .one (.view m 1 r2), .one (.int .i64 1)], [] => some (q_dec (q_aeP n m row r2), .tup [.one .nils, i64 (q_alE n (q_nu n row) (q_num m 1 r2) m 0)], [])
  | _, _, _ => none) Oe1
theorem sOe2 : Sound prog gl Oe2 := add_ok (D := DS) sOe1 sO20 mo (fun nb vs H v H' h => by
  split at h
  · rename_i n row m r2
    obtain ⟨h1, h2, h3⟩ : q_dec (q_aeP n m row r2) = true ∧ .tup [.one .nils, i64 (q_alE n (q_nu n row) (q_num m 1 r2) m 0)] = v ∧ [] = H' := by simpa using h
    subst h2 h3
    obtain ⟨⟨⟨g, sx, jx, rfl⟩, hc⟩, ⟨hm, ⟨B, J, rfl⟩⟩, hE⟩ := q_dec_iff.1 h1
    rw [nu_rwj, num_rj] at *
    have ee : q_alE n (cutG n g) (cut m 1 B) m 0 = q_alE n g B m 0 := alE_cg (fun k j hk hj => cutG_in hk hj) (fun k hk => cut_in hk (by omega)) m 0 (by omega)
    have hc' : q_chk n g = 0 := by rw [← hc]; exact (chk_cg (fun k j hk hj => cutG_in hk hj)).symm
    rw [ee] at hE ⊢
    exact ⟨14, ae_eq n m g sx jx B J hc' hm hE⟩
  · cases h)
noncomputable def Oe3 : Orac := addN 23 (fun nb vs H => match nb, vs, H with
  | 0, [.one (.view n 12 row), .one .nils, .one (.int .i64 1)], [] => some (q_dec ((q_isRw row ∧ n ≤ 100000) ∧ q_chk n (q_nu n row) = 0), .tup [.one .nils, i64 7], [])
  | 0, [.one .nils, .one .nils, .one (.int .i64 1)], [] => some (true, .tup [.one .nils, i64 7], [])
  | 0, [.one .nils, .one (.view (m + 1) 1 r2), .one (.int .i64 1)], [] => some (q_dec (q_isJ 1 r2), .tup [.one .nils, i64 7], [])
  | _, _, _ => none) Oe2
theorem sOe3 : Sound prog gl Oe3 := addN_ok sOe2 <| add_ok (D := DS) sOe2 sOe1 mo (fun nb vs H v H' h => by
  split at h
  · rename_i n row
    obtain ⟨h1, h2, h3⟩ : q_dec ((q_isRw row ∧ n ≤ 100000) ∧ q_chk n (q_nu n row) = 0) = true ∧ .tup [.one .nils, i64 7] = v ∧ [] = H' := by simpa using h
    subst h2 h3
    obtain ⟨h4, h5⟩ := q_dec_iff.1 h1
    refine ⟨2, (ae_vn n row).trans ?_⟩
    rw [if_pos (q_dec_iff.2 h4), h5]
    rfl
  · obtain ⟨h2, h3⟩ : .tup [.one .nils, i64 7] = v ∧ [] = H' := by simpa using h
    subst h2 h3
    exact ⟨2, ae_nn⟩
  · rename_i m r2
    obtain ⟨h1, h2, h3⟩ : q_dec (q_isJ 1 r2) = true ∧ .tup [.one .nils, i64 7] = v ∧ [] = H' := by simpa using h
    subst h2 h3
    obtain ⟨B, J, rfl⟩ := q_dec_iff.1 h1
    refine ⟨2, (ae_nv m B J).trans ?_⟩
    rw [if_pos (by simp <;> omega), chk_true (by simp <;> omega)]
  · cases h)
theorem ge_v (n m : Nat) (row r2 : Nat → Nat → PS) : callF prog gl DS 2 Oe3 0 14 [.one (.view n 12 row), .one (.view m 1 r2), i64 77] [] = (if (q_dec (q_aeP n m row r2)) = true then (if (q_alE n (q_nu n row) (q_num m (1 : Nat) r2) m (0 : Nat) != (0 : Int)) = true then (some ((PV.tup [PV.one PS.nils, i64 ((q_alE n (q_nu n row) (q_num m (1 : Nat) r2) m (0 : Nat)))], []))) else (if (q_dec (q_isRw row ∧ n ≤ (100000 : Nat))) = true then (if (decide (q_fd n (q_nu n row) (77 : Int) ≥ (0 : Int))) = true then (some ((PV.tup [PV.one PS.nils, i64 ((6 : Int))], []))) else none) else none)) else none) := by kernel_rfl
theorem ge_vn (n : Nat) (row : Nat → Nat → PS) : callF prog gl DS 2 Oe3 0 14 [.one (.view n 12 row), .one .nils, i64 77] [] = (if (q_dec ((q_isRw row ∧ n ≤ (100000 : Nat)) ∧ q_chk n (q_nu n row) = (0 : Int))) = true then (some ((PV.tup [PV.one PS.nils, i64 ((7 : Int))], []))) else none) := by kernel_rfl
theorem ge_nn  : callF prog gl DS 2 Oe3 0 14 [.one .nils, .one .nils, i64 77] [] = (some ((PV.tup [PV.one PS.nils, i64 ((7 : Int))], []))) := by kernel_rfl
theorem ge_nv (m : Nat) (r2 : Nat → Nat → PS) : callF prog gl DS 2 Oe3 0 14 [.one .nils, .one (.view (m + 1) 1 r2), i64 77] [] = (if (q_dec (q_isJ (1 : Nat) r2)) = true then (some ((PV.tup [PV.one PS.nils, i64 ((7 : Int))], []))) else none) := by kernel_rfl
noncomputable def Oe4 : Orac := addM 14 (fun nb vs H => match nb, vs, H with
  | 0, [.one (.view n 12 row), .one (.view m 1 r2), .one (.int .i64 77)], [] => some (q_dec (q_aeP n m row r2), .tup [.one .nils, i64 (q_alE n (q_nu n row) (q_num m 1 r2) m 0)], [])
  | 0, [.one (.view n 12 row), .one .nils, .one (.int .i64 77)], [] => some (q_dec ((q_isRw row ∧ n ≤ 100000) ∧ q_chk n (q_nu n row) = 0), .tup [.one .nils, i64 7], [])
  | 0, [.one .nils, .one .nils, .one (.int .i64 77)], [] => some (true, .tup [.one .nils, i64 7], [])
  | 0, [.one .nils, .one (.view (m + 1) 1 r2), .one (.int .i64 77)], [] => some (q_dec (q_isJ 1 r2), .tup [.one .nils, i64 7], [])
  | _, _, _ => none) Oe3
theorem sOe4 : Sound prog gl Oe4 := add_ok (D := DS) sOe3 sOe3 mo (fun nb vs H v H' h => by
  split at h
  · rename_i n row m r2
    obtain ⟨h1, h2, h3⟩ : q_dec (q_aeP n m row r2) = true ∧ .tup [.one .nils, i64 (q_alE n (q_nu n row) (q_num m 1 r2) m 0)] = v ∧ [] = H' := by simpa using h
    subst h2 h3
    refine ⟨2, (ge_v n m row r2).trans ?_⟩
    rw [if_pos h1, if_pos (by have := (q_dec_iff.1 h1).2.2; simpa using this)]
  · rename_i n row
    obtain ⟨h1, h2, h3⟩ : q_dec ((q_isRw row ∧ n ≤ 100000) ∧ q_chk n (q_nu n row) = 0) = true ∧ .tup [.one .nils, i64 7] = v ∧ [] = H' := by simpa using h
    subst h2 h3
    exact ⟨2, (ge_vn n row).trans (if_pos h1)⟩
  · obtain ⟨h2, h3⟩ : .tup [.one .nils, i64 7] = v ∧ [] = H' := by simpa using h
    subst h2 h3
    exact ⟨2, ge_nn⟩
  · rename_i m r2
    obtain ⟨h1, h2, h3⟩ : q_dec (q_isJ 1 r2) = true ∧ .tup [.one .nils, i64 7] = v ∧ [] = H' := by simpa using h
    subst h2 h3
    exact ⟨2, (ge_nv m r2).trans (if_pos h1)⟩
  · cases h)
/-! the law where Group answers an error -/
abbrev pS0 : List Bool := [true, true, true, true, false, true, false]
abbrev pS1 : List Bool := [true, true, true, true, true, true, true, true, true, false, true, false]
noncomputable abbrev yE (fl : Nat) (p : List Bool) : En → Heap → (Exit → En → Heap → Option (PV × Heap)) → Option (PV × Heap) := bodyAt prog gl Oe4 DS f5 2 0 fl p
noncomputable abbrev kE (fl : Nat) (p : List Bool) := kAt prog gl Oe4 DS f5 2 0 fl p
abbrev hS0 (m : Nat) (r2 : Nat → Nat → PS) (l o : PS) (i : Int) : En := [(27, none, i64 i), (26, none, i64 m), (25, none, .one (.view m 1 r2)), (5, none, .one o), (0, none, .one l), (4, none, bl false), (1, none, .one (.view m 1 r2))]
theorem e_pre (fl n m : Nat) (row r2 : Nat → Nat → PS) : callF prog gl DS fl Oe4 0 5 [.one (.view (n + 1) 12 row), .one (.view m 1 r2)] [] = (if (q_dec ((0 : Nat) < n + (1 : Nat) ∧ q_isRw row)) = true then (rounds (yE fl pS0) (kE fl pS0) fl ([((27 : Nat), none, i64 ((0 : Int))), ((26 : Nat), none, i64 ((↑m : Int))), ((25 : Nat), none, PV.one (PS.view m (1 : Nat) r2)), ((5 : Nat), none, PV.one PS.nils), ((0 : Nat), none, PV.one (PS.os (24 : Nat))), ((4 : Nat), none, PV.one (PS.bool false)), ((1 : Nat), none, PV.one (PS.view m (1 : Nat) r2))]) ([((24 : Nat), OB.rows (26 : Nat) (12 : Nat) (min (n + (1 : Nat)) (10 : Nat)) (q_rw (q_shG true (q_nu (n + (1 : Nat)) row)) (q_shS (q_tx2 (n + (1 : Nat)) row))))])) else none) := by kernel_rfl
theorem e_pre0 (fl m : Nat) (row r2 : Nat → Nat → PS) : callF prog gl DS fl Oe4 0 5 [.one (.view 0 12 row), .one (.view m 1 r2)] [] = (rounds (yE fl pS0) (kE fl pS0) fl ([((27 : Nat), none, i64 ((0 : Int))), ((26 : Nat), none, i64 ((↑m : Int))), ((25 : Nat), none, PV.one (PS.view m (1 : Nat) r2)), ((5 : Nat), none, PV.one PS.nils), ((0 : Nat), none, PV.one PS.nils), ((4 : Nat), none, PV.one (PS.bool false)), ((1 : Nat), none, PV.one (PS.view m (1 : Nat) r2))]) ([])) := by kernel_rfl
theorem e0_n (fl mm n m : Nat) (g : Nat → Nat → Int) (sx : Nat → Nat → ByteArray) (jx : Nat → Nat → PS) (B : Nat → Nat → Int) (J : Nat → Nat → PS) (i : Int) : rounds (yE fl pS0) (kE fl pS0) (mm + 1) (hS0 m (rj 1 B J) (.os 24) .nils i) [(24, .rows 26 12 (n + 1) (rwj g sx jx))] = (if (decide (i < (↑m : Int))) = true then (chk true (decide ((0 : Int) ≤ i) && decide (i < (↑m : Int))) (rounds (yE fl pS0) (kE fl pS0) mm ([((27 : Nat), none, i64 ((W (i + (1 : Int))))), ((26 : Nat), none, i64 ((↑m : Int))), ((25 : Nat), none, PV.one (PS.view m (1 : Nat) (rj (1 : Nat) B J))), ((5 : Nat), none, PV.one (PS.os (40 : Nat))), ((0 : Nat), none, PV.one (PS.os (24 : Nat))), ((4 : Nat), none, PV.one (PS.bool false)), ((1 : Nat), none, PV.one (PS.view m (1 : Nat) (rj (1 : Nat) B J)))]) ([((40 : Nat), OB.rows (3 : Nat) (1 : Nat) (1 : Nat) (appRow (0 : Nat) (fun _ _ ↦ PS.nilp) (litRow (1 : Nat) [PS.int IntKind.i64 (q_within (B i.toNat (0 : Nat)) (1 : Int) (10 : Int))]))), ((24 : Nat), OB.rows (26 : Nat) (12 : Nat) (n + (1 : Nat)) (rwj g sx jx))]))) else (if (q_dec ((q_isRw (rwj g sx jx) ∧ n + (1 : Nat) ≤ (100000 : Nat)) ∧ q_chk (n + (1 : Nat)) (q_nu (n + (1 : Nat)) (rwj g sx jx)) = (0 : Int))) = true then (some ((PV.one (PS.bool true), []))) else none)) := by kernel_rfl
theorem e0_s (fl mm n m o : Nat) (g : Nat → Nat → Int) (sx : Nat → Nat → ByteArray) (jx : Nat → Nat → PS) (B C : Nat → Nat → Int) (J K : Nat → Nat → PS) (i : Int) : rounds (yE fl pS0) (kE fl pS0) (mm + 1) (hS0 m (rj 1 B J) (.os 24) (.os 40) i) [(40, .rows 3 1 o (rj 1 C K)), (24, .rows 26 12 (n + 1) (rwj g sx jx))] = (if (decide (i < (↑m : Int))) = true then (chk true (decide ((0 : Int) ≤ i) && decide (i < (↑m : Int))) (if (q_dec (q_isJ (1 : Nat) (rj (1 : Nat) C K) ∧ o ≤ (100000 : Nat))) = true then (if (!decide (q_fd o (q_num o (1 : Nat) (rj (1 : Nat) C K)) (q_within (B i.toNat (0 : Nat)) (1 : Int) (10 : Int)) ≥ (0 : Int))) = true then (if (true && (decide (o + (1 : Nat) ≤ (9223372036854775807 : Nat)) && decide ((o + (1 : Nat)) * (8 : Nat) ≤ (140737488355328 : Nat)))) = true then (rounds (yE fl pS0) (kE fl pS0) mm ([((27 : Nat), none, i64 ((W (i + (1 : Int))))), ((26 : Nat), none, i64 ((↑m : Int))), ((25 : Nat), none, PV.one (PS.view m (1 : Nat) (rj (1 : Nat) B J))), ((5 : Nat), none, PV.one (PS.os (40 : Nat))), ((0 : Nat), none, PV.one (PS.os (24 : Nat))), ((4 : Nat), none, PV.one (PS.bool false)), ((1 : Nat), none, PV.one (PS.view m (1 : Nat) (rj (1 : Nat) B J)))]) ([((40 : Nat), OB.rows (3 : Nat) (1 : Nat) (o + (1 : Nat)) (appRow o (rj (1 : Nat) C K) (litRow (1 : Nat) [PS.int IntKind.i64 (q_within (B i.toNat (0 : Nat)) (1 : Int) (10 : Int))]))), ((24 : Nat), OB.rows (26 : Nat) (12 : Nat) (n + (1 : Nat)) (rwj g sx jx))])) else none) else (rounds (yE fl pS0) (kE fl pS0) mm ([((27 : Nat), none, i64 ((W (i + (1 : Int))))), ((26 : Nat), none, i64 ((↑m : Int))), ((25 : Nat), none, PV.one (PS.view m (1 : Nat) (rj (1 : Nat) B J))), ((5 : Nat), none, PV.one (PS.os (40 : Nat))), ((0 : Nat), none, PV.one (PS.os (24 : Nat))), ((4 : Nat), none, PV.one (PS.bool false)), ((1 : Nat), none, PV.one (PS.view m (1 : Nat) (rj (1 : Nat) B J)))]) ([((40 : Nat), OB.rows (3 : Nat) (1 : Nat) o (rj (1 : Nat) C K)), ((24 : Nat), OB.rows (26 : Nat) (12 : Nat) (n + (1 : Nat)) (rwj g sx jx))]))) else none)) else (if (q_dec (q_aeP (n + (1 : Nat)) o (rwj g sx jx) (rj (1 : Nat) C K))) = true then (if (q_alE (n + (1 : Nat)) (q_nu (n + (1 : Nat)) (rwj g sx jx)) (q_num o (1 : Nat) (rj (1 : Nat) C K)) o (0 : Nat) != (0 : Int)) = true then (some ((PV.one (PS.bool (bif bif q_alE (n + (1 : Nat)) (q_nu (n + (1 : Nat)) (rwj g sx jx)) (q_num o (1 : Nat) (rj (1 : Nat) C K)) o (0 : Nat) == (7 : Int) then true else q_alE (n + (1 : Nat)) (q_nu (n + (1 : Nat)) (rwj g sx jx)) (q_num o (1 : Nat) (rj (1 : Nat) C K)) o (0 : Nat) == (14 : Int) then true else q_alE (n + (1 : Nat)) (q_nu (n + (1 : Nat)) (rwj g sx jx)) (q_num o (1 : Nat) (rj (1 : Nat) C K)) o (0 : Nat) == (22 : Int))), []))) else none) else none)) := by kernel_rfl
theorem e0_nn (fl mm m : Nat) (B : Nat → Nat → Int) (J : Nat → Nat → PS) (i : Int) : rounds (yE fl pS0) (kE fl pS0) (mm + 1) (hS0 m (rj 1 B J) .nils .nils i) [] = (if (decide (i < (↑m : Int))) = true then (chk true (decide ((0 : Int) ≤ i) && decide (i < (↑m : Int))) (rounds (yE fl pS0) (kE fl pS0) mm ([((27 : Nat), none, i64 ((W (i + (1 : Int))))), ((26 : Nat), none, i64 ((↑m : Int))), ((25 : Nat), none, PV.one (PS.view m (1 : Nat) (rj (1 : Nat) B J))), ((5 : Nat), none, PV.one (PS.os (40 : Nat))), ((0 : Nat), none, PV.one PS.nils), ((4 : Nat), none, PV.one (PS.bool false)), ((1 : Nat), none, PV.one (PS.view m (1 : Nat) (rj (1 : Nat) B J)))]) ([((40 : Nat), OB.rows (3 : Nat) (1 : Nat) (1 : Nat) (appRow (0 : Nat) (fun _ _ ↦ PS.nilp) (litRow (1 : Nat) [PS.int IntKind.i64 (q_within (B i.toNat (0 : Nat)) (1 : Int) (10 : Int))])))]))) else (some ((PV.one (PS.bool true), [])))) := by kernel_rfl
theorem e0_ns (fl mm m o : Nat) (B C : Nat → Nat → Int) (J K : Nat → Nat → PS) (i : Int) : rounds (yE fl pS0) (kE fl pS0) (mm + 1) (hS0 m (rj 1 B J) .nils (.os 40) i) [(40, .rows 3 1 (o + 1) (rj 1 C K))] = (if (decide (i < (↑m : Int))) = true then (chk true (decide ((0 : Int) ≤ i) && decide (i < (↑m : Int))) (if (q_dec (q_isJ (1 : Nat) (rj (1 : Nat) C K) ∧ o + (1 : Nat) ≤ (100000 : Nat))) = true then (if (!decide (q_fd (o + (1 : Nat)) (q_num (o + (1 : Nat)) (1 : Nat) (rj (1 : Nat) C K)) (q_within (B i.toNat (0 : Nat)) (1 : Int) (10 : Int)) ≥ (0 : Int))) = true then (if (true && (decide (o + (1 : Nat) + (1 : Nat) ≤ (9223372036854775807 : Nat)) && decide ((o + (1 : Nat) + (1 : Nat)) * (8 : Nat) ≤ (140737488355328 : Nat)))) = true then (rounds (yE fl pS0) (kE fl pS0) mm ([((27 : Nat), none, i64 ((W (i + (1 : Int))))), ((26 : Nat), none, i64 ((↑m : Int))), ((25 : Nat), none, PV.one (PS.view m (1 : Nat) (rj (1 : Nat) B J))), ((5 : Nat), none, PV.one (PS.os (40 : Nat))), ((0 : Nat), none, PV.one PS.nils), ((4 : Nat), none, PV.one (PS.bool false)), ((1 : Nat), none, PV.one (PS.view m (1 : Nat) (rj (1 : Nat) B J)))]) ([((40 : Nat), OB.rows (3 : Nat) (1 : Nat) (o + (1 : Nat) + (1 : Nat)) (appRow (o + (1 : Nat)) (rj (1 : Nat) C K) (litRow (1 : Nat) [PS.int IntKind.i64 (q_within (B i.toNat (0 : Nat)) (1 : Int) (10 : Int))])))])) else none) else (rounds (yE fl pS0) (kE fl pS0) mm ([((27 : Nat), none, i64 ((W (i + (1 : Int))))), ((26 : Nat), none, i64 ((↑m : Int))), ((25 : Nat), none, PV.one (PS.view m (1 : Nat) (rj (1 : Nat) B J))), ((5 : Nat), none, PV.one (PS.os (40 : Nat))), ((0 : Nat), none, PV.one PS.nils), ((4 : Nat), none, PV.one (PS.bool false)), ((1 : Nat), none, PV.one (PS.view m (1 : Nat) (rj (1 : Nat) B J)))]) ([((40 : Nat), OB.rows (3 : Nat) (1 : Nat) (o + (1 : Nat)) (rj (1 : Nat) C K))]))) else none)) else (if (q_dec (q_isJ (1 : Nat) (rj (1 : Nat) C K))) = true then (some ((PV.one (PS.bool true), []))) else none)) := by kernel_rfl
/-! the law's items -/
def q_ow (B : Nat → Nat → Int) : Nat → List Int
  | 0 => []
  | i + 1 => if q_within (B i 0) 1 10 ∈ q_ow B i then q_ow B i else q_ow B i ++ [q_within (B i 0) 1 10]
def q_lB (L : List Int) : Nat → Nat → Int := fun i _ => L.getD i 0
theorem mem_at {L : List Int} {x : Int} : x ∈ L ↔ ∃ k, k < L.length ∧ L.getD k 0 = x := by
  rw [List.mem_iff_getElem]
  constructor
  · rintro ⟨k, hk, e⟩; exact ⟨k, hk, by rw [List.getD_eq_getElem?_getD, List.getElem?_eq_getElem hk]; exact e⟩
  · rintro ⟨k, hk, e⟩; exact ⟨k, hk, by rw [List.getD_eq_getElem?_getD, List.getElem?_eq_getElem hk] at e; exact e⟩
theorem own_fd {L : List Int} {C : Nat → Nat → Int} (h : AgB L.length C (q_lB L)) (x : Int) : decide (q_fd L.length C x ≥ 0) = decide (x ∈ L) := by
  have e : q_fd L.length C x = q_fd L.length (q_lB L) x := fd_cg h
  rw [e]
  by_cases c : x ∈ L
  · rw [decide_eq_true c]
    obtain ⟨k, hk, e⟩ := mem_at.1 c
    rcases fd_spec L.length (q_lB L) x with ⟨h1, h2⟩ | ⟨k', h1, h2, _⟩
    · exact absurd e (h2 k hk)
    · exact decide_eq_true (by omega)
  · rw [decide_eq_false c]
    rcases fd_spec L.length (q_lB L) x with ⟨h1, h2⟩ | ⟨k', h1, h2, h3, _⟩
    · exact decide_eq_false (by omega)
    · exact absurd (mem_at.2 ⟨k', h1, h3⟩) c
theorem getD_snoc {L : List Int} {x : Int} {k : Nat} (h : k < L.length + 1) : (L ++ [x]).getD k 0 = if k < L.length then L.getD k 0 else x := by
  by_cases c : k < L.length
  · rw [if_pos c]; simp [List.getD_eq_getElem?_getD, List.getElem?_append_left c]
  · obtain rfl : k = L.length := by omega
    rw [if_neg c]; simp [List.getD_eq_getElem?_getD]
theorem php : ∀ (N o : Nat) (f : Nat → Nat), (∀ k, k < o → f k < N) → (∀ i j, i < o → j < o → f i = f j → i = j) → o ≤ N := by
  intro N
  induction N with
  | zero =>
    intro o f h _
    rcases Nat.eq_zero_or_pos o with e | e
    · omega
    · have := h 0 e; omega
  | succ N ih =>
    intro o f h hi
    by_cases c : ∃ k, k < o ∧ f k = N
    · obtain ⟨k, hk, e⟩ := c
      have : o - 1 ≤ N := by
        refine ih (o - 1) (fun q => f (if q < k then q else q + 1)) (fun q hq => ?_) (fun i j h1 h2 h3 => ?_)
        · have h1 := h (if q < k then q else q + 1) (by split <;> omega)
          have h2 : f (if q < k then q else q + 1) ≠ N := fun e2 => by
            have := hi _ k (by split <;> omega) hk (e2.trans e.symm)
            split at this <;> omega
          show f (if q < k then q else q + 1) < N
          omega
        · have := hi _ _ (by split <;> omega) (by split <;> omega) h3
          split at this <;> split at this <;> omega
      omega
    · have := ih o f (fun k hk => by
        have := h k hk
        have : f k ≠ N := fun e => c ⟨k, hk, e⟩
        omega) hi
      omega
/-- The items of the law: at least 1, at most 10, none twice. -/
theorem ow_ok (B : Nat → Nat → Int) : ∀ i, (∀ k, k < (q_ow B i).length → 1 ≤ (q_ow B i).getD k 0 ∧ (q_ow B i).getD k 0 ≤ 10) ∧ ∀ a b, a < (q_ow B i).length → b < (q_ow B i).length → (q_ow B i).getD a 0 = (q_ow B i).getD b 0 → a = b := by
  intro i
  induction i with
  | zero => exact ⟨fun k h => absurd h (by simp [q_ow]), fun a b h => absurd h (by simp [q_ow])⟩
  | succ i ih =>
    unfold q_ow
    split
    · exact ih
    · rename_i c
      have hk := within_in (B i 0) 1 10 (by omega)
      refine ⟨fun k h => ?_, fun a b ha hb e => ?_⟩
      · rw [List.length_append, List.length_singleton] at h
        rw [getD_snoc h]
        split
        · rename_i h1; exact ih.1 k h1
        · exact hk
      · rw [List.length_append, List.length_singleton] at ha hb
        rw [getD_snoc ha, getD_snoc hb] at e
        split at e <;> split at e
        · rename_i h1 h2; exact ih.2 a b h1 h2 e
        · rename_i h1 h2; exact absurd (mem_at.2 ⟨a, h1, e⟩) c
        · rename_i h1 h2; exact absurd (mem_at.2 ⟨b, h2, e.symm⟩) c
        · omega
theorem ow_len (B : Nat → Nat → Int) (i : Nat) : (q_ow B i).length ≤ 10 := by
  obtain ⟨h1, h2⟩ := ow_ok B i
  refine php 10 _ (fun k => ((q_ow B i).getD k 0 - 1).toNat) (fun k hk => ?_) (fun a b ha hb e => ?_)
  · have := h1 k hk
    show ((q_ow B i).getD k 0 - 1).toNat < 10
    omega
  · have := h1 a ha
    have := h1 b hb
    have e : ((q_ow B i).getD a 0 - 1).toNat = ((q_ow B i).getD b 0 - 1).toNat := e
    exact h2 a b ha hb (by omega)
theorem ow_new {L : List Int} {C : Nat → Nat → Int} {x : Int} (h : AgB L.length C (q_lB L)) : AgB (L ++ [x]).length (appB L.length C [x]) (q_lB (L ++ [x])) := fun k hk => by
  rw [List.length_append, List.length_singleton] at hk
  show appB L.length C [x] k 0 = (L ++ [x]).getD k 0
  rw [getD_snoc hk]
  unfold appB
  by_cases c : k < L.length
  · rw [if_pos c, if_pos c]; exact h k c
  · rw [if_neg c, if_neg c]; rfl
theorem lit1 (x : Int) : ∃ K, appRow 0 (fun _ _ => PS.nilp) (litRow 1 [PS.int .i64 x]) = rj 1 (appB 0 (fun _ _ => 0) [x]) K := by
  obtain ⟨K', e⟩ := app_rj 1 0 (fun _ _ => 0) (fun _ _ => .nilp) [x] rfl
  refine ⟨K', ?_⟩
  rw [← e]; funext a b; rw [appRow_eq, appRow_eq, if_neg (by omega), if_neg (by omega)]; rfl
theorem e0_step (fl mm n m i : Nat) (hm : m ≤ 9223372036854775807) (g : Nat → Nat → Int) (sx : Nat → Nat → ByteArray) (jx : Nat → Nat → PS) (B : Nat → Nat → Int) (J : Nat → Nat → PS) (hi : i < m) (C : Nat → Nat → Int) (K : Nat → Nat → PS) (hA : AgB (q_ow B i).length C (q_lB (q_ow B i))) :
    ∃ s : (Nat → Nat → Int) × (Nat → Nat → PS), AgB (q_ow B (i + 1)).length s.1 (q_lB (q_ow B (i + 1))) ∧
    rounds (yE fl pS0) (kE fl pS0) (mm + 1) (hS0 m (rj 1 B J) (.os 24) (if q_ow B i = [] then .nils else .os 40) (i : Nat)) (if q_ow B i = [] then [(24, .rows 26 12 (n + 1) (rwj g sx jx))] else (40, .rows 3 1 (q_ow B i).length (rj 1 C K)) :: [(24, .rows 26 12 (n + 1) (rwj g sx jx))]) =
    rounds (yE fl pS0) (kE fl pS0) mm (hS0 m (rj 1 B J) (.os 24) (if q_ow B (i + 1) = [] then .nils else .os 40) ((i + 1 : Nat) : Int)) (if q_ow B (i + 1) = [] then [(24, .rows 26 12 (n + 1) (rwj g sx jx))] else (40, .rows 3 1 (q_ow B (i + 1)).length (rj 1 s.1 s.2)) :: [(24, .rows 26 12 (n + 1) (rwj g sx jx))]) := by
  have hS : q_ow B (i + 1) = if q_within (B i 0) 1 10 ∈ q_ow B i then q_ow B i else q_ow B i ++ [q_within (B i 0) 1 10] := rfl
  have hlen := ow_len B i
  rw [hS]
  generalize q_ow B i = L at *
  by_cases hL : L = []
  · subst hL
    obtain ⟨K', e⟩ := lit1 (q_within (B i 0) 1 10)
    have key := e0_n fl mm n m g sx jx B J (i : Nat)
    rw [if_pos (by simp; omega), chk_true (by simp; omega), Int.toNat_natCast, W_nat (by omega), e] at key
    exact ⟨(_, K'), ow_new hA, key⟩
  · have hpos : 0 < L.length := List.length_pos_iff.2 hL
    have hnum : q_num L.length 1 (rj 1 C K) = cut L.length 1 C := num_rj
    have hfd : ∀ x, q_fd L.length (cut L.length 1 C) x = q_fd L.length C x := fun x => fd_cg (fun k hk => cut_in hk (by omega))
    have key := e0_s fl mm n m L.length g sx jx B C J K (i : Nat)
    rw [if_pos (by simp; omega), chk_true (by simp; omega), Int.toNat_natCast, W_nat (by omega), if_pos (q_dec_iff.2 ⟨⟨C, K, rfl⟩, by omega⟩), hnum, hfd, own_fd hA] at key
    by_cases c : q_within (B i 0) 1 10 ∈ L
    · rw [decide_eq_true c, if_neg (by decide)] at key
      rw [if_pos c]
      simp only [if_neg hL]
      exact ⟨(C, K), hA, key⟩
    · have hLM : ¬ (L ++ [q_within (B i 0) 1 10] = []) := fun q => hL (List.append_eq_nil_iff.1 q).1
      obtain ⟨K', e⟩ := app_rj 1 L.length C K [q_within (B i 0) 1 10] rfl
      have e' : appRow L.length (rj 1 C K) (litRow 1 [PS.int .i64 (q_within (B i 0) 1 10)]) = rj 1 (appB L.length C [q_within (B i 0) 1 10]) K' := e
      rw [decide_eq_false c, if_pos (by decide), if_pos (by simp; omega), e'] at key
      rw [if_neg c]
      simp only [if_neg hL, if_neg hLM]
      refine ⟨(_, K'), ow_new hA, key.trans ?_⟩
      rw [List.length_append, List.length_singleton]
      rfl
theorem en_step (fl mm n m i : Nat) (hm : m ≤ 9223372036854775807) (g : Nat → Nat → Int) (sx : Nat → Nat → ByteArray) (jx : Nat → Nat → PS) (B : Nat → Nat → Int) (J : Nat → Nat → PS) (hi : i < m) (C : Nat → Nat → Int) (K : Nat → Nat → PS) (hA : AgB (q_ow B i).length C (q_lB (q_ow B i))) :
    ∃ s : (Nat → Nat → Int) × (Nat → Nat → PS), AgB (q_ow B (i + 1)).length s.1 (q_lB (q_ow B (i + 1))) ∧
    rounds (yE fl pS0) (kE fl pS0) (mm + 1) (hS0 m (rj 1 B J) .nils (if q_ow B i = [] then .nils else .os 40) (i : Nat)) (if q_ow B i = [] then [] else (40, .rows 3 1 (q_ow B i).length (rj 1 C K)) :: []) =
    rounds (yE fl pS0) (kE fl pS0) mm (hS0 m (rj 1 B J) .nils (if q_ow B (i + 1) = [] then .nils else .os 40) ((i + 1 : Nat) : Int)) (if q_ow B (i + 1) = [] then [] else (40, .rows 3 1 (q_ow B (i + 1)).length (rj 1 s.1 s.2)) :: []) := by
  have hS : q_ow B (i + 1) = if q_within (B i 0) 1 10 ∈ q_ow B i then q_ow B i else q_ow B i ++ [q_within (B i 0) 1 10] := rfl
  have hlen := ow_len B i
  rw [hS]
  generalize q_ow B i = L at *
  by_cases hL : L = []
  · subst hL
    obtain ⟨K', e⟩ := lit1 (q_within (B i 0) 1 10)
    have key := e0_nn fl mm m B J (i : Nat)
    rw [if_pos (by simp; omega), chk_true (by simp; omega), Int.toNat_natCast, W_nat (by omega), e] at key
    exact ⟨(_, K'), ow_new hA, key⟩
  · have hpos : 0 < L.length := List.length_pos_iff.2 hL
    have hnum : q_num L.length 1 (rj 1 C K) = cut L.length 1 C := num_rj
    have hfd : ∀ x, q_fd L.length (cut L.length 1 C) x = q_fd L.length C x := fun x => fd_cg (fun k hk => cut_in hk (by omega))
    obtain ⟨o, ho⟩ : ∃ o, L.length = o + 1 := ⟨L.length - 1, by omega⟩
    have key := e0_ns fl mm m o B C J K (i : Nat)
    rw [← ho] at key
    rw [if_pos (by simp; omega), chk_true (by simp; omega), Int.toNat_natCast, W_nat (by omega), if_pos (q_dec_iff.2 ⟨⟨C, K, rfl⟩, by omega⟩), hnum, hfd, own_fd hA] at key
    by_cases c : q_within (B i 0) 1 10 ∈ L
    · rw [decide_eq_true c, if_neg (by decide)] at key
      rw [if_pos c]
      simp only [if_neg hL]
      exact ⟨(C, K), hA, key⟩
    · have hLM : ¬ (L ++ [q_within (B i 0) 1 10] = []) := fun q => hL (List.append_eq_nil_iff.1 q).1
      obtain ⟨K', e⟩ := app_rj 1 L.length C K [q_within (B i 0) 1 10] rfl
      have e' : appRow L.length (rj 1 C K) (litRow 1 [PS.int .i64 (q_within (B i 0) 1 10)]) = rj 1 (appB L.length C [q_within (B i 0) 1 10]) K' := e
      rw [decide_eq_false c, if_pos (by decide), if_pos (by simp; omega), e'] at key
      rw [if_neg c]
      simp only [if_neg hL, if_neg hLM]
      refine ⟨(_, K'), ow_new hA, key.trans ?_⟩
      rw [List.length_append, List.length_singleton]
      rfl
theorem e0_law (n m : Nat) (hm : m ≤ 9223372036854775807) (g : Nat → Nat → Int) (sx : Nat → Nat → ByteArray) (jx : Nat → Nat → PS) (B : Nat → Nat → Int) (J : Nat → Nat → PS) (hn : n ≤ 1000) (hc : q_chk (n + 1) g = 0) (h : q_ow B m = [] ∨ (q_alE (n + 1) g (q_lB (q_ow B m)) (q_ow B m).length 0 = 7 ∨ q_alE (n + 1) g (q_lB (q_ow B m)) (q_ow B m).length 0 = 14)) :
    rounds (yE (m + 2) pS0) (kE (m + 2) pS0) (m + 2) (hS0 m (rj 1 B J) (.os 24) .nils ((0 : Nat) : Int)) [(24, .rows 26 12 (n + 1) (rwj g sx jx))] = some (bl true, []) := by
  refine loop_ex (body := yE (m + 2) pS0) (K := kE (m + 2) pS0) (σ := (Nat → Nat → Int) × (Nat → Nat → PS)) (fun i _ => hS0 m (rj 1 B J) (.os 24) (if q_ow B i = [] then .nils else .os 40) ((i : Nat) : Int)) (fun i s => if q_ow B i = [] then [(24, .rows 26 12 (n + 1) (rwj g sx jx))] else (40, .rows 3 1 (q_ow B i).length (rj 1 s.1 s.2)) :: [(24, .rows 26 12 (n + 1) (rwj g sx jx))]) (fun i s => AgB (q_ow B i).length s.1 (q_lB (q_ow B i))) m (Z := fun z => z = some (bl true, [])) ?_ ?_ (m + 2) 0 (fun _ _ => 0, fun _ _ => .nilp) (by omega) (by omega) (fun k hk => absurd hk (by simp [q_ow]))
  · rintro i ⟨C, K⟩ mm hi hA
    exact e0_step (m + 2) mm n m i hm g sx jx B J hi C K hA
  · rintro ⟨C, K⟩ mm hA
    have hA : AgB (q_ow B m).length C (q_lB (q_ow B m)) := hA
    have hlen := ow_len B m
    have ec : q_chk (n + 1) (q_nu (n + 1) (rwj g sx jx)) = 0 := by rw [nu_rwj, chk_cg (g' := g) (fun k j hk hj => cutG_in hk hj)]; exact hc
    have hnum : q_num (q_ow B m).length 1 (rj 1 C K) = cut (q_ow B m).length 1 C := num_rj
    have eE : q_alE (n + 1) (q_nu (n + 1) (rwj g sx jx)) (cut (q_ow B m).length 1 C) (q_ow B m).length 0 = q_alE (n + 1) g (q_lB (q_ow B m)) (q_ow B m).length 0 := by
      rw [nu_rwj]; exact alE_cg (fun k j hk hj => cutG_in hk hj) (fun k hk => (cut_in hk (by omega)).trans (hA k hk)) _ 0 (by omega)
    generalize q_ow B m = L at *
    by_cases hL : L = []
    · simp only [if_pos hL]
      rw [e0_n, if_neg (by simp), if_pos (q_dec_iff.2 ⟨⟨⟨g, sx, jx, rfl⟩, by omega⟩, ec⟩)]
    · simp only [if_neg hL]
      have h := h.resolve_left hL
      rw [e0_s, if_neg (by simp), hnum, eE, if_pos (q_dec_iff.2 ⟨⟨⟨g, sx, jx, rfl⟩, ec⟩, ⟨by omega, ⟨C, K, rfl⟩⟩, by rw [hnum, eE]; omega⟩)]
      rcases h with h | h <;> rw [h] <;> rfl
theorem en_law (m : Nat) (hm : m ≤ 9223372036854775807) (B : Nat → Nat → Int) (J : Nat → Nat → PS) :
    rounds (yE (m + 2) pS0) (kE (m + 2) pS0) (m + 2) (hS0 m (rj 1 B J) .nils .nils ((0 : Nat) : Int)) [] = some (bl true, []) := by
  refine loop_ex (body := yE (m + 2) pS0) (K := kE (m + 2) pS0) (σ := (Nat → Nat → Int) × (Nat → Nat → PS)) (fun i _ => hS0 m (rj 1 B J) .nils (if q_ow B i = [] then .nils else .os 40) ((i : Nat) : Int)) (fun i s => if q_ow B i = [] then [] else (40, .rows 3 1 (q_ow B i).length (rj 1 s.1 s.2)) :: []) (fun i s => AgB (q_ow B i).length s.1 (q_lB (q_ow B i))) m (Z := fun z => z = some (bl true, [])) ?_ ?_ (m + 2) 0 (fun _ _ => 0, fun _ _ => .nilp) (by omega) (by omega) (fun k hk => absurd hk (by simp [q_ow]))
  · rintro i ⟨C, K⟩ mm hi hA
    exact en_step (m + 2) mm 0 m i hm (fun _ _ => 0) (fun _ _ => emp) (fun _ _ => .nilp) B J hi C K hA
  · rintro ⟨C, K⟩ mm hA
    generalize q_ow B m = L at *
    by_cases hL : L = []
    · simp only [if_pos hL]
      rw [e0_nn, if_neg (by simp)]
    · simp only [if_neg hL]
      have hpos : 0 < L.length := List.length_pos_iff.2 hL
      obtain ⟨o, ho⟩ : ∃ o, L.length = o + 1 := ⟨L.length - 1, by omega⟩
      rw [ho, e0_ns, if_neg (by simp), if_pos (q_dec_iff.2 ⟨C, K, rfl⟩)]
end Go.Proofs.YtgipgiejdbhpkaaDoor.Sh
