import Derived.Test.YtlhgmlfhlbmjpaaTlT
namespace Go.Proofs.Ytlhgmlfhlbmjpaa.Sh
open Go Go.RowKit Go.Proofs.Ytlhgmlfhlbmjpaa.Ev Go.Proofs.Try
set_option maxRecDepth 100000
set_option linter.unusedVariables false
/-! ForthAndBack: the second loop, the first one -/
theorem sub0 {n : Nat} {r : Nat → Nat → PS} : subRow none n r = r := rfl
theorem gb_step (fl mm m k la lb : Nat) (G T A B : Nat → Nat → Int) (x : Int) (i : Nat) (hi : i < la) (hla : la ≤ 12) (hlb : lb ≤ 12) (hk : k ≤ m) (hm : m ≤ 12) (h1 : ∃ r, r < lb ∧ B r 0 = A i 0) (h2 : ∀ r, r < lb → B r 0 = A i 0 → B r 2 = A i 2 ∧ B r 3 = A i 3 ∧ (0 ≤ q_kxF (cut k 7 G) (A i 0) k 0 → B r 1 = A i 1)) :
    rounds (yGB fl pFB2) (kGB2 fl) (mm + 1) (hGB m k la G x i) (bGB m la lb T A B) = rounds (yGB fl pFB2) (kGB2 fl) mm (hGB m k la G x ((i + 1 : Nat) : Int)) (bGB m la lb T A B) := by
  rw [gb_r]
  have e4 : q_num lb 4 (q_row 4 B) = cut lb 4 B := num_rj
  have e7 : q_num k 7 (q_row 7 G) = cut k 7 G := num_rj
  obtain ⟨r, hr, er, eix⟩ : ∃ r, r < lb ∧ B r 0 = A i 0 ∧ q_ix lb (cut lb 4 B) (A i 0) = r := by
    rcases ixF_spec (cut lb 4 B) (A i 0) lb 0 with ⟨_, q2⟩ | ⟨r, _, q2, q3, q4, _⟩
    · obtain ⟨r, hr, er⟩ := h1
      refine absurd ?_ (q2 r (by omega) (by omega))
      rw [cut_in hr (by omega)]; exact er
    · have hr : r < lb := by omega
      rw [cut_in hr (by omega)] at q4
      exact ⟨r, hr, q4, q3⟩
  obtain ⟨f2, f3, f1⟩ := h2 r hr er
  simp only [Int.toNat_natCast, sub0, Nat.sub_zero, e4, e7, eix]
  have c1 : (decide ((0 : Int) ≤ (r : Int)) && decide ((r : Int) < (lb : Int))) = true := by simp <;> omega
  have c2 : (decide (r < lb) && true) = true := by simp <;> omega
  rw [if_pos (by simpa using hi), chk_true (by simp <;> omega), chk_true (by simp <;> omega), if_pos (q_dec_iff.2 ⟨⟨B, _, rfl⟩, by omega⟩), chk_true c1, chk_true c2, chk_true c1, chk_true c2, if_neg (by rw [f2, f3]; simp <;> omega), chk_true (by simp <;> omega), if_pos (q_dec_iff.2 ⟨⟨G, _, rfl⟩, by omega⟩), chk_true c1, chk_true c2, if_neg (by
    by_cases c : 0 ≤ q_kxF (cut k 7 G) (A i 0) k 0
    · rw [f1 c]; simp
    · rw [decide_eq_false (by omega)]; simp), W_nat (by omega)]
theorem gb_loop2 (m k la lb : Nat) (G T A B : Nat → Nat → Int) (x : Int) (hla : la ≤ 12) (hlb : lb ≤ 12) (hk : k ≤ m) (hm : m ≤ 12) (h : ∀ i, i < la → (∃ r, r < lb ∧ B r 0 = A i 0) ∧ ∀ r, r < lb → B r 0 = A i 0 → B r 2 = A i 2 ∧ B r 3 = A i 3 ∧ (0 ≤ q_kxF (cut k 7 G) (A i 0) k 0 → B r 1 = A i 1)) (fl : Nat) :
    rounds (yGB fl pFB2) (kGB2 fl) 20 (hGB m k la G x (0 : Nat)) (bGB m la lb T A B) = some (bl true, []) := by
  refine loop_ex (body := yGB fl pFB2) (K := kGB2 fl) (σ := Unit) (fun i _ => hGB m k la G x ((i : Nat) : Int)) (fun _ _ => bGB m la lb T A B) (fun _ _ => True) la (Z := fun z => z = some (bl true, [])) ?_ ?_ 20 0 () (by omega) (by omega) trivial
  · intro i _ mm hi _
    exact ⟨(), trivial, gb_step fl mm m k la lb G T A B x i hi hla hlb hk hm (h i hi).1 (h i hi).2⟩
  · intro _ mm _
    rw [gb_r, if_neg (by simp)]
theorem sn_le {n : Nat} {g : Nat → Nat → Int} : q_sn n g ≤ n := ol_len g n
theorem effP_cut' {n m : Nat} {g : Nat → Nat → Int} (h : q_effP m g) (hm : n ≤ m) : q_effP n (cut n 7 g) := ⟨by have := h.1; omega, fun i hi => by
  simpa only [cut_in hi (show 0 < 7 by omega), cut_in hi (show 1 < 7 by omega), cut_in hi (show 2 < 7 by omega), cut_in hi (show 3 < 7 by omega), cut_in hi (show 4 < 7 by omega), cut_in hi (show 5 < 7 by omega), cut_in hi (show 6 < 7 by omega)] using h.2 i (by omega)⟩
/-- Behind the loop that counts, where there are effects ahead of the first click. -/
theorem gb_end (mm m k : Nat) (G : Nat → Nat → Int) (x : Int) (hx : 0 ≤ x ∧ x ≤ 1500) (h0 : 0 < k) (hk : k ≤ m) (hm : m ≤ 12) (hG : q_effP m G) (hT : ∀ i, i < k → q_tm (cut m 7 G) i 0 = 0) (hT2 : k = m ∨ q_tm (cut m 7 G) k 0 ≠ 0) :
    rounds (yGB 20 pFB) (kGB 20) (mm + 1) (hFB m G (k : Nat) x) (bFB m (q_tm (cut m 7 G))) = some (bl true, []) := by
  rw [gb_k]
  have e7 : ∀ n, q_num n 7 (q_row 7 G) = cut n 7 G := fun n => num_rj
  simp only [Int.toNat_natCast, sub0, Nat.sub_zero, e7]
  have key := gb_loop2 m k (q_sn k (cut k 7 G)) (q_sn m (cut m 7 G)) G (q_tm (cut m 7 G)) (q_st k (cut k 7 G) 0 x) (q_st m (cut m 7 G) 0 x) x (by have := sn_le (n := k) (g := cut k 7 G); omega) (by have := sn_le (n := m) (g := cut m 7 G); omega) hk hm (fun i hi => fb_law hG hk hT hT2 hi) 20
  have key' : rounds (yGB 20 pFB2) (kGB2 20) 20 (hGB m k (q_sn k (cut k 7 G)) G x (0 : Int)) (bGB m (q_sn k (cut k 7 G)) (q_sn m (cut m 7 G)) (q_tm (cut m 7 G)) (q_st k (cut k 7 G) 0 x) (q_st m (cut m 7 G) 0 x)) = some (bl true, []) := key
  have p1 : q_dec (0 < k ∧ q_isJ 7 (q_row 7 G) ∧ q_effP k (cut k 7 G) ∧ ((0 : Int) ≤ 0 ∧ (0 : Int) ≤ 200) ∧ 0 ≤ x ∧ x ≤ 10000000) = true := q_dec_iff.2 ⟨h0, ⟨G, _, rfl⟩, effP_cut' hG hk, by omega, by omega⟩
  have p2 : q_dec (0 < m ∧ q_isJ 7 (q_row 7 G) ∧ q_effP m (cut m 7 G) ∧ ((0 : Int) ≤ 0 ∧ (0 : Int) ≤ 200) ∧ 0 ≤ x ∧ x ≤ 10000000) = true := q_dec_iff.2 ⟨by omega, ⟨G, _, rfl⟩, effP_cut' hG (Nat.le_refl m), by omega, by omega⟩
  rcases Nat.lt_or_ge k m with hkm | hkm
  · have hne : q_tm (cut m 7 G) k 0 ≠ 0 := by rcases hT2 with h | h; (· omega); exact h
    rw [chk_true (by simp <;> omega), chk_true (by simp <;> omega), if_neg (by simp [hne]), chk_true (by simp <;> omega), if_pos p1, if_pos p2]
    exact key'
  · have e : decide ((k : Int) < (m : Int)) = false := decide_eq_false (by omega)
    rw [e, chk_no rfl, chk_no rfl, if_neg (by simp), chk_true (by simp <;> omega), if_pos p1, if_pos p2]
    exact key'
theorem gb_on (mm m k : Nat) (G T : Nat → Nat → Int) (x : Int) (hk : k < m) (hm : m ≤ 12) (h : T k 0 = 0) : rounds (yGB 20 pFB) (kGB 20) (mm + 1) (hFB m G (k : Nat) x) (bFB m T) = rounds (yGB 20 pFB) (kGB 20) mm (hFB m G ((k + 1 : Nat) : Int) x) (bFB m T) := by
  rw [gb_k, Int.toNat_natCast, chk_true (by simp <;> omega), chk_true (by simp <;> omega), if_pos (by rw [decide_eq_true (by omega), h]; rfl), W_nat (by omega)]
theorem gb_all (m : Nat) (G : Nat → Nat → Int) (x : Int) (hx : 0 ≤ x ∧ x ≤ 1500) (hm : m ≤ 12) (hG : q_effP m G) : ∀ (d k mm : Nat), k + d = m → 0 < k → d < mm → (∀ i, i < k → q_tm (cut m 7 G) i 0 = 0) → rounds (yGB 20 pFB) (kGB 20) mm (hFB m G (k : Nat) x) (bFB m (q_tm (cut m 7 G))) = some (bl true, []) := by
  intro d
  induction d with
  | zero =>
    intro k mm hk h0 hmm hT
    obtain ⟨mm, rfl⟩ : ∃ m', mm = m' + 1 := ⟨mm - 1, by omega⟩
    exact gb_end mm m k G x hx h0 (by omega) hm hG hT (.inl (by omega))
  | succ d ih =>
    intro k mm hk h0 hmm hT
    obtain ⟨mm, rfl⟩ : ∃ m', mm = m' + 1 := ⟨mm - 1, by omega⟩
    by_cases h : q_tm (cut m 7 G) k 0 = 0
    · rw [gb_on mm m k G _ x (by omega) hm h]
      refine ih (k + 1) mm (by omega) (by omega) (by omega) (fun i hi => ?_)
      by_cases e : i = k
      · subst e; exact h
      · exact hT i (by omega)
    · exact gb_end mm m k G x hx h0 (by omega) hm hG hT (.inr h)
/-! no effects ahead of the first click: State of an empty part of the list; no effects at all -/
theorem sv0_raw (r : Nat → Nat → PS) (a b : Int) : callF prog gl DS 10 (upM (callF prog gl DS 10 (upM (callF prog gl DS 10 (upM (callF prog gl DS 10 noM)))))) 0 13 [.one (.view 0 7 r), i64 a, i64 b] [] = (if (bif bif bif decide (a < (0 : Int)) then true else decide (a > (200 : Int)) then true else decide (b < (0 : Int)) then true else decide (b > (10000000 : Int))) = true then (some ((PV.tup [PV.one PS.nils, i64 ((2 : Int))], []))) else (some ((PV.tup [PV.one PS.nils, i64 ((0 : Int))], [])))) := by kernel_rfl
theorem tv0_raw  : callF prog gl DS 10 (upM (callF prog gl DS 10 (upM (callF prog gl DS 10 (upM (callF prog gl DS 10 noM)))))) 0 15 [.one .nils] [] = (some ((PV.tup [PV.one PS.nils, i64 ((0 : Int))], []))) := by kernel_rfl
noncomputable def O36 : Orac := addN 13 (fun nb vs H => match nb, vs, H with
  | 0, [.one (.view 0 7 r), .one (.int .i64 a), .one (.int .i64 b)], [] => some (q_dec ((0 ≤ a ∧ a ≤ 200) ∧ 0 ≤ b ∧ b ≤ 10000000), .tup [.one .nils, i64 0], [])
  | 0, [.one .nils, .one (.int .i64 a), .one (.int .i64 b)], [] => some (q_dec ((0 ≤ a ∧ a ≤ 200) ∧ 0 ≤ b ∧ b ≤ 10000000), .tup [.one .nils, i64 0], [])
  | _, _, _ => none) O35
theorem sS00 : Sound prog gl (upM (callF prog gl DS 10 (upM (callF prog gl DS 10 (upM (callF prog gl DS 10 noM)))))) := callF_ok (callF_ok (callF_ok none_ok mo 10) mo 10) mo 10
theorem sn0_raw (a b : Int) : callF prog gl DS 10 (upM (callF prog gl DS 10 (upM (callF prog gl DS 10 (upM (callF prog gl DS 10 noM)))))) 0 13 [.one .nils, i64 a, i64 b] [] = (if (bif bif bif decide (a < (0 : Int)) then true else decide (a > (200 : Int)) then true else decide (b < (0 : Int)) then true else decide (b > (10000000 : Int))) = true then (some ((PV.tup [PV.one PS.nils, i64 ((2 : Int))], []))) else (some ((PV.tup [PV.one PS.nils, i64 ((0 : Int))], [])))) := by kernel_rfl
theorem sO36 : Sound prog gl O36 := addN_ok sO35 <| add_ok (D := DS) sO35 sS00 mo (fun nb vs H v H' h => by
  split at h
  · rename_i r a b
    obtain ⟨h1, h2, h3⟩ : q_dec ((0 ≤ a ∧ a ≤ 200) ∧ 0 ≤ b ∧ b ≤ 10000000) = true ∧ .tup [.one .nils, i64 0] = v ∧ [] = H' := by simpa using h
    subst h2 h3
    have := q_dec_iff.1 h1
    exact ⟨10, (sv0_raw r a b).trans (if_neg (by simp <;> omega))⟩
  · rename_i a b
    obtain ⟨h1, h2, h3⟩ : q_dec ((0 ≤ a ∧ a ≤ 200) ∧ 0 ≤ b ∧ b ≤ 10000000) = true ∧ .tup [.one .nils, i64 0] = v ∧ [] = H' := by simpa using h
    subst h2 h3
    have := q_dec_iff.1 h1
    exact ⟨10, (sn0_raw a b).trans (if_neg (by simp <;> omega))⟩
  · cases h)
noncomputable def O37 : Orac := addN 15 (fun nb vs H => match nb, vs, H with
  | 0, [.one .nils], [] => some (true, .tup [.one .nils, i64 0], [])
  | _, _, _ => none) O36
theorem sO37 : Sound prog gl O37 := addN_ok sO36 <| add_ok (D := DS) sO36 sS00 mo (fun nb vs H v H' h => by
  split at h
  · obtain ⟨h1, h2⟩ : .tup [.one .nils, i64 0] = v ∧ [] = H' := by simpa using h
    subst h1 h2
    exact ⟨10, tv0_raw⟩
  · cases h)
theorem eg0_raw (r : Nat → Nat → PS) : callF prog gl noD 10 O1 0 10 [.one (.view 0 7 r)] [] = (some ((PV.one PS.nils, []))) := by kernel_rfl
noncomputable def O38 : Orac := addN 10 (fun nb vs H => match nb, vs, H with
  | 0, [.one (.view 0 7 r)], [] => some (true, .one .nils, [])
  | _, _, _ => none) O37
theorem sO38 : Sound prog gl O38 := addN_ok sO37 <| add_ok (D := noD) sO37 sO1 mo (fun nb vs H v H' h => by
  split at h
  · obtain ⟨h1, h2⟩ : .one .nils = v ∧ [] = H' := by simpa using h
    subst h1 h2
    exact ⟨10, eg0_raw _⟩
  · cases h)
noncomputable abbrev yHB (fl : Nat) (p : List Bool) : En → Heap → (Exit → En → Heap → Option (PV × Heap)) → Option (PV × Heap) := bodyAt prog gl O38 DS f5 2 0 fl p
noncomputable abbrev kHB (fl : Nat) := kAt prog gl O38 DS f5 2 0 fl pFB
noncomputable abbrev kHB2 (fl : Nat) := kAt prog gl O38 DS f5 2 0 fl pFB2
theorem hb_pre (fl n : Nat) (r : Nat → Nat → PS) (a : Int) : callF prog gl DS fl O38 0 5 [.one (.view (n + 1) 7 r), i64 a] [] = (if (q_dec (q_isJ (7 : Nat) r ∧ (0 : Nat) < n + (1 : Nat))) = true then (if (q_dec ((0 : Nat) < min (n + (1 : Nat)) (12 : Nat) ∧ q_isJ (7 : Nat) (q_row (7 : Nat) (q_eff (q_num (n + (1 : Nat)) (7 : Nat) r))) ∧ q_effP (min (n + (1 : Nat)) (12 : Nat)) (q_num (min (n + (1 : Nat)) (12 : Nat)) (7 : Nat) (q_row (7 : Nat) (q_eff (q_num (n + (1 : Nat)) (7 : Nat) r)))))) = true then (if ((↑(min (n + (1 : Nat)) (12 : Nat)) : Int) != (↑(min (n + (1 : Nat)) (12 : Nat)) : Int)) = true then (some ((PV.one (PS.bool false), []))) else (rounds (yHB fl pFB) (kHB fl) fl ([((7 : Nat), none, i64 ((0 : Int))), ((6 : Nat), none, i64 ((0 : Int))), ((5 : Nat), none, PV.one (PS.os (24 : Nat))), ((1 : Nat), none, i64 ((q_within a (0 : Int) (1500 : Int)))), ((0 : Nat), none, PV.one (PS.view (min (n + (1 : Nat)) (12 : Nat)) (7 : Nat) (q_row (7 : Nat) (q_eff (q_num (n + (1 : Nat)) (7 : Nat) r))))), ((4 : Nat), none, PV.one (PS.bool false))]) ([((24 : Nat), OB.rows (44 : Nat) (3 : Nat) (min (n + (1 : Nat)) (12 : Nat)) (q_row (3 : Nat) (q_tm (q_num (min (n + (1 : Nat)) (12 : Nat)) (7 : Nat) (q_row (7 : Nat) (q_eff (q_num (n + (1 : Nat)) (7 : Nat) r)))))))]))) else none) else none) := by kernel_rfl
theorem hb_k (fl mm m : Nat) (G T : Nat → Nat → Int) (x : Int) : rounds (yHB fl pFB) (kHB fl) (mm + 1) (hFB (m + 1) G 0 x) (bFB (m + 1) T) = (chk (decide ((0 : Int) < (↑(m + (1 : Nat)) : Int))) (true && decide ((0 : Int) < (↑(m + (1 : Nat)) : Int))) (if (bif decide ((0 : Int) < (↑(m + (1 : Nat)) : Int)) then T (0 : Nat) (0 : Nat) == (0 : Int) else false) = true then (rounds (yHB fl pFB) (kHB fl) mm ([((7 : Nat), none, i64 ((1 : Int))), ((6 : Nat), none, i64 ((0 : Int))), ((5 : Nat), none, PV.one (PS.os (24 : Nat))), ((1 : Nat), none, i64 (x)), ((0 : Nat), none, PV.one (PS.view (m + (1 : Nat)) (7 : Nat) (q_row (7 : Nat) G))), ((4 : Nat), none, PV.one (PS.bool false))]) ([((24 : Nat), OB.rows (44 : Nat) (3 : Nat) (m + (1 : Nat)) (q_row (3 : Nat) T))])) else (if (q_dec (((0 : Int) ≤ (0 : Int) ∧ (0 : Int) ≤ (200 : Int)) ∧ (0 : Int) ≤ x ∧ x ≤ (10000000 : Int))) = true then (if (q_dec ((0 : Nat) < m + (1 : Nat) ∧ q_isJ (7 : Nat) (q_row (7 : Nat) G) ∧ q_effP (m + (1 : Nat)) (q_num (m + (1 : Nat)) (7 : Nat) (q_row (7 : Nat) G)) ∧ ((0 : Int) ≤ (0 : Int) ∧ (0 : Int) ≤ (200 : Int)) ∧ (0 : Int) ≤ x ∧ x ≤ (10000000 : Int))) = true then (rounds (yHB fl pFB2) (kHB2 fl) fl ([((72 : Nat), none, i64 ((0 : Int))), ((71 : Nat), none, i64 ((0 : Int))), ((70 : Nat), none, PV.one PS.nils), ((11 : Nat), none, i64 ((0 : Int))), ((10 : Nat), none, PV.one (PS.os (61 : Nat))), ((9 : Nat), none, i64 ((0 : Int))), ((8 : Nat), none, PV.one PS.nils), ((7 : Nat), none, i64 ((0 : Int))), ((6 : Nat), none, i64 ((0 : Int))), ((5 : Nat), none, PV.one (PS.os (24 : Nat))), ((1 : Nat), none, i64 (x)), ((0 : Nat), none, PV.one (PS.view (m + (1 : Nat)) (7 : Nat) (q_row (7 : Nat) G))), ((4 : Nat), none, PV.one (PS.bool false))]) ([((61 : Nat), OB.rows (35 : Nat) (4 : Nat) (q_sn (m + (1 : Nat)) (q_num (m + (1 : Nat)) (7 : Nat) (q_row (7 : Nat) G))) (q_row (4 : Nat) (q_st (m + (1 : Nat)) (q_num (m + (1 : Nat)) (7 : Nat) (q_row (7 : Nat) G)) (0 : Int) x))), ((24 : Nat), OB.rows (44 : Nat) (3 : Nat) (m + (1 : Nat)) (q_row (3 : Nat) T))])) else none) else none))) := by kernel_rfl
theorem hb_0 (r : Nat → Nat → PS) (a : Int) : callF prog gl DS 20 O38 0 5 [.one (.view 0 7 r), i64 a] [] = (if (q_dec (((0 : Int) ≤ (0 : Int) ∧ (0 : Int) ≤ (200 : Int)) ∧ (0 : Int) ≤ q_within a (0 : Int) (1500 : Int) ∧ q_within a (0 : Int) (1500 : Int) ≤ (10000000 : Int))) = true then (if (q_dec (((0 : Int) ≤ (0 : Int) ∧ (0 : Int) ≤ (200 : Int)) ∧ (0 : Int) ≤ q_within a (0 : Int) (1500 : Int) ∧ q_within a (0 : Int) (1500 : Int) ≤ (10000000 : Int))) = true then (some ((PV.one (PS.bool true), []))) else none) else none) := by kernel_rfl
end Go.Proofs.Ytlhgmlfhlbmjpaa.Sh
