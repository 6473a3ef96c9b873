import Derived.Test.YtfemkfodakfcmaaChR
namespace Go.Proofs.Ytfemkfodakfcmaa.Sh
open Go Go.RowKit Go.Proofs.Ytfemkfodakfcmaa.Ev Go.Proofs.Try
set_option maxRecDepth 100000
set_option linter.unusedVariables false
/-- Bars with their names, series and heights. -/
def SHB (n m : Nat) (B : Nat → Nat → Int) (D : Nat → Nat → Int) : Prop := ∀ p, p < n * m → B p 1 = (p / m : Nat) ∧ B p 0 = (p % m : Nat) ∧ B p 5 = D (p / m) (p % m)
/-- The sum of a name's first heights. -/
def SHS (n m : Nat) (V D : Nat → Nat → Int) (a b c t : Int) (S : Nat → Nat → Int) : Prop := ∀ i, i < n → S i 0 = 0 ∧ (∀ j, j < m → S i (j + 1) = S i j + D i j ∧ 0 ≤ D i j) ∧ ∀ j, j ≤ m → q_plP a b c (q_sum V i j) t ∧ S i j = q_pl a b (q_sum V i j) t
theorem sh3_loop (fl mm m1 n m n0 m0 iN jN : Nat) (k hi a b c t all all1 sum : Int) (nr nr0 sr0 : Nat → Nat → PS) (V B D : Nat → Nat → Int) (hB : SHB n m B D) (hm : 1 ≤ m ∧ m ≤ 12) (hn : n ≤ 200) (hi' : iN < n) (hj : jN < m) (hD : 0 ≤ D iN jN ∧ D iN jN ≤ 100000) (hs : 0 ≤ sum ∧ sum ≤ 100000) (hf : 2500 ≤ fl) :
    rounds (ySH fl pSH3) (kSH3 fl m1 (A0v k n0 m0 nr0 sr0) n m hi t iN all sum jN (bSH (n * m) B n m nr (q_sr n V) a b c) (kSH2 fl mm (A0v k n0 m0 nr0 sr0) n hi t iN (bSH (n * m) B n m nr (q_sr n V) a b c))) fl (hSH3 (A0v k n0 m0 nr0 sr0) (n * m) n m hi t iN all1 sum jN (0 : Nat)) (bSH (n * m) B n m nr (q_sr n V) a b c) =
    rounds (ySH fl pSH2) (kSH2 fl mm (A0v k n0 m0 nr0 sr0) n hi t iN (bSH (n * m) B n m nr (q_sr n V) a b c)) m1 (hSH2 (A0v k n0 m0 nr0 sr0) n m hi t iN all1 (sum + D iN jN) ((jN + 1 : Nat) : Int)) (bSH (n * m) B n m nr (q_sr n V) a b c) := by
  have hL := nm_le (i := n) (Nat.le_refl _) hn hm.2
  have hidx : iN * m + jN < n * m := row_lt2 hi' hj
  refine loop_ex (body := ySH fl pSH3) (K := kSH3 fl m1 (A0v k n0 m0 nr0 sr0) n m hi t iN all sum jN (bSH (n * m) B n m nr (q_sr n V) a b c) (kSH2 fl mm (A0v k n0 m0 nr0 sr0) n hi t iN (bSH (n * m) B n m nr (q_sr n V) a b c))) (σ := Int) (fun p s1 => hSH3 (A0v k n0 m0 nr0 sr0) (n * m) n m hi t iN all1 s1 jN ((p : Nat) : Int)) (fun _ _ => bSH (n * m) B n m nr (q_sr n V) a b c) (fun p s1 => s1 = sum + (if iN * m + jN < p then D iN jN else 0)) (n * m) (Z := fun x => x = rounds (ySH fl pSH2) (kSH2 fl mm (A0v k n0 m0 nr0 sr0) n hi t iN (bSH (n * m) B n m nr (q_sr n V) a b c)) m1 (hSH2 (A0v k n0 m0 nr0 sr0) n m hi t iN all1 (sum + D iN jN) ((jN + 1 : Nat) : Int)) (bSH (n * m) B n m nr (q_sr n V) a b c)) ?_ ?_ fl 0 sum (by omega) (by omega) (by rw [if_neg (by omega)]; omega)
  · intro p s1 m2 hp hI
    obtain ⟨b1, b0, b5⟩ := hB p hp
    have e1 := Nat.div_add_mod p m
    have st : ∀ s' : Int, (if (bif ((p / m : Nat) : Int) == (iN : Int) then ((p % m : Nat) : Int) == (jN : Int) else false) = true then s' = W (s1 + B p 5) else s' = s1) → rounds (ySH fl pSH3) (kSH3 fl m1 (A0v k n0 m0 nr0 sr0) n m hi t iN all sum jN (bSH (n * m) B n m nr (q_sr n V) a b c) (kSH2 fl mm (A0v k n0 m0 nr0 sr0) n hi t iN (bSH (n * m) B n m nr (q_sr n V) a b c))) (m2 + 1) (hSH3 (A0v k n0 m0 nr0 sr0) (n * m) n m hi t iN all1 s1 jN ((p : Nat) : Int)) (bSH (n * m) B n m nr (q_sr n V) a b c) = rounds (ySH fl pSH3) (kSH3 fl m1 (A0v k n0 m0 nr0 sr0) n m hi t iN all sum jN (bSH (n * m) B n m nr (q_sr n V) a b c) (kSH2 fl mm (A0v k n0 m0 nr0 sr0) n hi t iN (bSH (n * m) B n m nr (q_sr n V) a b c))) m2 (hSH3 (A0v k n0 m0 nr0 sr0) (n * m) n m hi t iN all1 s' jN ((p + 1 : Nat) : Int)) (bSH (n * m) B n m nr (q_sr n V) a b c) := fun s' hs' => by
      rw [sh3_st, if_pos (decide_eq_true (by omega)), chk_true (by rw [decide_eq_true (by omega : (0 : Int) ≤ (p : Int)), decide_eq_true (by omega : (p : Int) < ((n * m : Nat) : Int))]; rfl), chk_true (by simpa using hp), Int.toNat_natCast, b1, b0, W_nat (by omega)]
      split at hs'
      · rename_i hc; rw [if_pos hc, hs']; rfl
      · rename_i hc; rw [if_neg hc, hs']; rfl
    by_cases hc : p = iN * m + jN
    · have q1 : p / m = iN := by rw [hc, Nat.mul_comm, Nat.mul_add_div (by omega), Nat.div_eq_of_lt hj]; omega
      have q2 : p % m = jN := by rw [hc, Nat.mul_comm, Nat.mul_add_mod, Nat.mod_eq_of_lt hj]
      have hI' : s1 = sum := by rw [hI, if_neg (by omega)]; omega
      refine ⟨sum + D iN jN, by rw [if_pos (by omega)], st _ ?_⟩
      rw [if_pos (by rw [q1, q2]; simp), b5, q1, q2, hI', W_id (n := sum + D iN jN) (by omega) (by omega)]
    · refine ⟨s1, ?_, st _ ?_⟩
      · rw [hI]
        by_cases hq : iN * m + jN < p
        · rw [if_pos hq, if_pos (by omega)]
        · rw [if_neg hq, if_neg (by omega)]
      · rw [if_neg (by
          intro hcc
          have : p / m = iN ∧ p % m = jN := by
            cases h1 : (((p / m : Nat) : Int) == (iN : Int)) with
            | false => rw [h1] at hcc; cases hcc
            | true =>
              rw [h1] at hcc
              have h1 := eq_of_beq h1
              have h2 := eq_of_beq (show (((p % m : Nat) : Int) == (jN : Int)) = true from hcc)
              omega
          rw [this.1, this.2] at e1
          exact hc (by rw [← e1, Nat.mul_comm]))]
  · intro s1 m2 hI
    rw [if_pos hidx] at hI
    rw [sh3_st, if_neg (by simp), W_nat (by omega), hI]
    rfl
theorem sh2_loop (fl mm n m n0 m0 iN : Nat) (k hi a b c t : Int) (nr nr0 sr0 : Nat → Nat → PS) (V B D S : Nat → Nat → Int) (hok : q_ok 1 n m V) (hB : SHB n m B D) (hS : SHS n m V D a b c t S) (hi' : iN < n) (hf : 2500 ≤ fl) :
    rounds (ySH fl pSH2) (kSH2 fl mm (A0v k n0 m0 nr0 sr0) n hi t iN (bSH (n * m) B n m nr (q_sr n V) a b c)) fl (hSH2 (A0v k n0 m0 nr0 sr0) n m hi t iN 0 0 (0 : Nat)) (bSH (n * m) B n m nr (q_sr n V) a b c) =
    rounds (ySH fl pSH) (kSH fl) mm (hSH (.one (.os 41)) (A0v k n0 m0 nr0 sr0) n hi t ((iN + 1 : Nat) : Int)) (bSH (n * m) B n m nr (q_sr n V) a b c) := by
  have hn := hok.2.1
  have hm := hok.2.2.1
  obtain ⟨s0, s1, s2⟩ := hS iN hi'
  refine loop_ex (body := ySH fl pSH2) (K := kSH2 fl mm (A0v k n0 m0 nr0 sr0) n hi t iN (bSH (n * m) B n m nr (q_sr n V) a b c)) (σ := Unit) (fun j _ => hSH2 (A0v k n0 m0 nr0 sr0) n m hi t iN (q_sum V iN j) (S iN j) ((j : Nat) : Int)) (fun _ _ => bSH (n * m) B n m nr (q_sr n V) a b c) (fun _ _ => True) m (Z := fun x => x = rounds (ySH fl pSH) (kSH fl) mm (hSH (.one (.os 41)) (A0v k n0 m0 nr0 sr0) n hi t ((iN + 1 : Nat) : Int)) (bSH (n * m) B n m nr (q_sr n V) a b c)) ?_ ?_ fl 0 () (by omega) (by omega) trivial |> fun h => by rw [show q_sum V iN 0 = 0 from rfl, s0] at h; exact h
  · intro j _ m1 hj _
    refine ⟨(), trivial, ?_⟩
    have hs := sum_le hok hi' j (by omega)
    have hv := (hok.2.2.2 j iN hj hi').1
    have e : W (q_sum V iN j + V j iN) = q_sum V iN (j + 1) := by rw [W_id (by omega) (by omega)]; rfl
    obtain ⟨p1, p2⟩ := s2 j (by omega)
    obtain ⟨p3, p4⟩ := s2 (j + 1) (by omega)
    obtain ⟨d1, d2⟩ := s1 j hj
    have l1 := pl_le p1
    have l2 := pl_le p3
    have ht := p1.2.1
    rw [sh2_st, if_pos (by simpa using hj), chk_true (by simp; omega), chk_true (by simp; omega), Int.toNat_natCast, Int.toNat_natCast, e]
    rw [show ((j + 1 : Nat) : Int) = ((j + 1 : Nat) : Int) from rfl, d1]
    exact sh3_loop fl mm m1 n m n0 m0 iN j k hi a b c t _ (q_sum V iN (j + 1)) (S iN j) nr nr0 sr0 V B D hB hm hn.2 hi' hj (by omega) (by omega) hf
  · intro _ m1 _
    obtain ⟨p1, p2⟩ := s2 m (Nat.le_refl _)
    rw [sh2_st, if_neg (by simp), if_pos (q_dec_iff.2 p1), if_neg (by rw [p2]; simp), W_nat (by omega)]
theorem sh_loop (fl n m n0 m0 : Nat) (k hi a b c t : Int) (nr nr0 sr0 : Nat → Nat → PS) (V B D S : Nat → Nat → Int) (hok : q_ok 1 n m V) (hB : SHB n m B D) (hS : SHS n m V D a b c t S) (hf : 2500 ≤ fl) :
    rounds (ySH fl pSH) (kSH fl) fl (hSH (.one (.os 41)) (A0v k n0 m0 nr0 sr0) n hi t (0 : Nat)) (bSH (n * m) B n m nr (q_sr n V) a b c) = some (bl true, []) := by
  have hn := hok.2.1
  refine loop_ex (body := ySH fl pSH) (K := kSH fl) (σ := Unit) (fun i _ => hSH (.one (.os 41)) (A0v k n0 m0 nr0 sr0) n hi t ((i : Nat) : Int)) (fun _ _ => bSH (n * m) B n m nr (q_sr n V) a b c) (fun _ _ => True) n (Z := fun x => x = some (bl true, [])) ?_ ?_ fl 0 () (by omega) (by omega) trivial
  · intro i _ mm hi' _
    refine ⟨(), trivial, ?_⟩
    rw [sh_st, if_pos (by simpa using hi')]
    exact sh2_loop fl mm n m n0 m0 i k hi a b c t nr nr0 sr0 V B D S hok hB hS hi' hf
  · intro _ mm _
    rw [sh_st, if_neg (by simp)]
/-- ChartStackedHeights answers true. -/
theorem sh_true (n0 m0 : Nat) (k t : Int) (nr0 sr0 : Nat → Nat → PS) (h : q_is2 sr0) : callF prog gl DL 2500 O16 0 5 [A0v k n0 m0 nr0 sr0, i64 t] [] = some (bl true, []) := by
  rw [sh_pre]
  have t1 := within_in t 1 5000 (by omega)
  generalize q_within t 1 5000 = T at *
  have hok := q_okX 1 (by omega) n0 m0 (q_ln sr0) (q_V sr0)
  rw [if_pos (q_dec_iff.2 ⟨h, by omega⟩)]
  generalize q_nn n0 = n at *
  generalize q_mm m0 = m at *
  generalize q_bX 1 m0 (q_ln sr0) (q_V sr0) = X at *
  rw [V_sr, if_pos (q_dec_iff.2 ⟨⟨X, rfl⟩, hok⟩)]
  obtain ⟨_, hR⟩ := rg_spec (nr := q_nrow) (sr := q_sr n X) ⟨⟨X, rfl⟩, hok⟩
  have hR : RgO 1 m X n (q_lo n m 1 q_nrow (q_sr n X)) (q_hi n m 1 q_nrow (q_sr n X)) := hR
  have hlo := hR.2.2.1 rfl
  have hb := hR.1
  generalize q_lo n m 1 q_nrow (q_sr n X) = lo at *
  generalize q_hi n m 1 q_nrow (q_sr n X) = hi at *
  subst hlo
  have hfd : q_fdP 0 hi 10 := ⟨by omega, by omega⟩
  obtain ⟨_, hsc, hl, hh, h0⟩ := fd_spec hfd
  have hsc : q_sc (q_fd1 0 hi 10) (q_fd2 0 hi 10) (q_fd3 0 hi 10) := hsc
  have hh : hi ≤ q_fd2 0 hi 10 := hh
  have h0 : q_fd1 0 hi 10 = 0 := by
    have e : (0 : Int) / (q_fd 0 hi 10).2.2 = 0 := Int.zero_ediv _
    rw [e, Int.zero_mul] at h0
    exact h0
  rw [h0] at hsc ⊢
  generalize q_fd2 0 hi 10 = b at *
  generalize q_fd3 0 hi 10 = c at *
  have hbP : q_bP 1 n m X 0 b c T 1000 0 hi := ⟨hok, hsc, by omega, by omega, by omega, hh, hR⟩
  rw [if_pos (q_dec_iff.2 hfd), if_pos (q_dec_iff.2 ⟨⟨X, rfl⟩, hbP⟩)]
  have hm : 0 < m := hok.2.2.1.1
  have hb0 : 0 < b := hsc.2.2.2.1
  refine sh_loop 2500 n m n0 m0 k hi 0 b c T q_nrow nr0 sr0 X _ (fun i j => q_pl 0 b (q_sum X i (j + 1)) T - q_pl 0 b (q_sum X i j) T) (fun i j => q_pl 0 b (q_sum X i j) T) hok ?_ ?_ (by omega)
  · intro p hp
    have hi' : p / m < n := (Nat.div_lt_iff_lt_mul hm).2 hp
    have hj : p % m < m := Nat.mod_lt _ hm
    obtain ⟨ez, hst⟩ := st_s hbP hi'
    have m3 := pl_mono (hst (p % m) (by omega)).1 ((hst (p % m) (by omega)).2 (p % m + 1) (by omega) (by omega))
    refine ⟨rfl, rfl, ?_⟩
    show max (q_y 0 b T (q_z 0 b + q_sum X (p / m) (p % m))) (q_y 0 b T (q_z 0 b + q_sum X (p / m) (p % m + 1))) - min (q_y 0 b T (q_z 0 b + q_sum X (p / m) (p % m))) (q_y 0 b T (q_z 0 b + q_sum X (p / m) (p % m + 1))) = q_pl 0 b (q_sum X (p / m) (p % m + 1)) T - q_pl 0 b (q_sum X (p / m) (p % m)) T
    rw [ez, Int.zero_add, Int.zero_add]
    unfold q_y
    omega
  · intro i hi'
    obtain ⟨ez, hst⟩ := st_s hbP hi'
    refine ⟨?_, fun j hj => ⟨?_, ?_⟩, fun j hj => ⟨(hst j hj).1, rfl⟩⟩
    · show q_pl 0 b 0 T = 0
      unfold q_pl
      rw [show 2 * ((0 : Int) - 0) * T + (b - 0) = b by omega, show 2 * (b - 0) = 2 * b by omega]
      exact Int.ediv_eq_zero_of_lt (by omega) (by omega)
    · show q_pl 0 b (q_sum X i (j + 1)) T = q_pl 0 b (q_sum X i j) T + (q_pl 0 b (q_sum X i (j + 1)) T - q_pl 0 b (q_sum X i j) T)
      omega
    · have m3 := pl_mono (hst j (by omega)).1 ((hst j (by omega)).2 (j + 1) (by omega) (by omega))
      show 0 ≤ q_pl 0 b (q_sum X i (j + 1)) T - q_pl 0 b (q_sum X i j) T
      omega
end Go.Proofs.Ytfemkfodakfcmaa.Sh
