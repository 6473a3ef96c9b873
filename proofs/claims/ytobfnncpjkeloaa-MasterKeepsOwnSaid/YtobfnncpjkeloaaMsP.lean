import Derived.Test.YtobfnncpjkeloaaMsO
namespace Go.Proofs.Ytobfnncpjkeloaa.Sh
open Go Go.RowKit Go.Proofs.Ytobfnncpjkeloaa.Ev Go.Proofs.Try
set_option maxRecDepth 1000000
set_option linter.unusedVariables false
set_option linter.unusedSimpArgs false
theorem nm_put (g : Nat → Nat → Int) (s : Nat → Nat → ByteArray) (j : Nat → Nat → PS) (i : Nat) (x : ByteArray) : ∃ s', putRow (rwj g s j) i 10 [.str x] = rwj g s' j := by
  refine ⟨fun i1 j1 => if i1 = i ∧ j1 = 10 then x else s i1 j1, ?_⟩
  funext i1 j1
  rw [putRow_eq]
  unfold rwj
  by_cases h1 : i1 = i
  · by_cases h2 : j1 = 10
    · subst h1 h2
      simp
    · have : ¬ (10 ≤ j1 ∧ j1 < 10 + 1) := by omega
      simp [h1, h2]
      intro a b; omega
  · simp [h1]
theorem mf_len {g : Nat → Nat → Int} {sx : Nat → Nat → ByteArray} : ∀ (r i : Nat) (u : PS → Int) (l : List ByteArray), (q_mf g sx r i u l).length ≤ l.length + r := by
  intro r
  induction r with
  | zero => exact fun _ _ _ => Nat.le_refl _
  | succ r ih =>
    intro i u l
    unfold q_mf
    split
    · have := ih (i + 1) (upd u (sx i 10) 1) (l ++ [sx i 10])
      rw [List.length_append] at this
      simp at this
      omega
    · have := ih (i + 1) u l
      omega
theorem l2_all (fl n m : Nat) (hn : n ≤ 10) (hm : m ≤ 10) (hfl : n < fl) (g g2 : Nat → Nat → Int) (sx s2 : Nat → Nat → ByteArray) (jx j2 Mr : Nat → Nat → PS) (nm : ByteArray) (j : Int) :
    rounds (yL fl pL2) (kL fl pL2) fl (hL2 n m (q_mnl n m (q_nu n (rwj g sx jx)) (q_nu m (rwj g2 s2 j2)) (q_tx2 n (rwj g sx jx)) (q_tx2 m (rwj g2 s2 j2))) (rwj g sx jx) (rwj g2 s2 j2) (q_rw (q_frN n m (rwj g sx jx) (rwj g2 s2 j2)) (q_tx2 n (rwj g sx jx))) Mr (q_mnt n m (q_nu n (rwj g sx jx)) (q_nu m (rwj g2 s2 j2)) (q_tx2 n (rwj g sx jx)) (q_tx2 m (rwj g2 s2 j2))) nm j 0) [] = some (bl true, []) := by
  have hs : ∀ i, i < n → q_tx2 n (rwj g sx jx) i 10 = sx i 10 ∧ q_tx2 n (rwj g sx jx) i 11 = sx i 11 := fun i hi => by
    rw [tx_rwj]; unfold cutS
    exact ⟨if_pos ⟨hi, .inl rfl⟩, if_pos ⟨hi, .inr rfl⟩⟩
  refine l2_loop fl n m _ hn ?_ g (q_frN n m (rwj g sx jx) (rwj g2 s2 j2)) sx (q_tx2 n (rwj g sx jx)) jx (fun _ _ => .nilp) (rwj g2 s2 j2) Mr _ nm j ?_ hs ?_ n 0 fl (by omega) (by omega)
  · unfold q_mnl q_mn
    have := mf_len (g := q_nu m (rwj g2 s2 j2)) (sx := q_tx2 m (rwj g2 s2 j2)) m 0 (q_us (q_nu n (rwj g sx jx)) (q_tx2 n (rwj g sx jx)) n) []
    simp at this
    omega
  · intro i hi
    have e : ∀ j, j < 10 → q_frN n m (rwj g sx jx) (rwj g2 s2 j2) i j = q_fr m g2 s2 g sx i j := fun j hj => by
      unfold q_frN
      rw [nu_rwj, nu_rwj, tx_rwj, tx_rwj]
      exact fr_cut hi hj
    by_cases h : q_mv m g2 s2 g sx i = true
    · obtain ⟨_, a1, a5, a6⟩ := mv_pl h
      exact .inr ⟨a1, a5, a6, fun j hj hq => by rw [e j hj, fr_yes h, if_neg (by omega)]⟩
    · exact .inl fun j hj => by rw [e j hj, fr_no h]
  · intro i hi hg
    refine six_no _ _ (fun kk hk => ?_)
    rw [tb_rt (by omega)]
    intro e
    refine mn_not (m := m) (g := q_nu n (rwj g sx jx)) (g2 := q_nu m (rwj g2 s2 j2)) (sx := q_tx2 n (rwj g sx jx)) (sx2 := q_tx2 m (rwj g2 s2 j2)) hi (by rw [nu_rwj, cutG_in hi (by omega)]; exact hg) ?_
    rw [(hs i hi).1, ← e]
    have hk' : kk < (q_mn n m (q_nu n (rwj g sx jx)) (q_nu m (rwj g2 s2 j2)) (q_tx2 n (rwj g sx jx)) (q_tx2 m (rwj g2 s2 j2))).length := by
      have : kk < 0 + q_mnl n m (q_nu n (rwj g sx jx)) (q_nu m (rwj g2 s2 j2)) (q_tx2 n (rwj g sx jx)) (q_tx2 m (rwj g2 s2 j2)) := hk
      unfold q_mnl at this
      omega
    unfold q_mnt
    rw [List.getD_eq_getElem?_getD, List.getElem?_eq_getElem hk']
    exact List.getElem_mem hk'
theorem l1p_loop (fl n m : Nat) (hn : n ≤ 10) (hm : m ≤ 10) (hfl : n < fl) (g g2 : Nat → Nat → Int) (sx : Nat → Nat → ByteArray) (jx j2 Mr : Nat → Nat → PS) (nm : ByteArray) (hc : q_chk n (q_nu n (rwj g sx jx)) = 0) (hV : Vd m g2) : ∀ (r i m1 : Nat) (s2 : Nat → Nat → ByteArray), i + r = m → r < m1 →
    rounds (yL fl pL1) (kL fl pL1) m1 (hL1 m (.os 38) nm Mr (i : Nat)) [(40, .rows 28 12 m (rwj g2 s2 j2)), (38, .rows 28 12 n (rwj g sx jx))] = some (bl true, []) := by
  intro r
  induction r with
  | zero =>
    intro i m1 s2 hi h1
    obtain ⟨m1, rfl⟩ : ∃ m', m1 = m' + 1 := ⟨m1 - 1, by omega⟩
    have hd : q_dec ((q_isRw (rwj g sx jx) ∧ n ≤ 100000 ∧ q_chk n (q_nu n (rwj g sx jx)) = 0) ∧ q_isRw (rwj g2 s2 j2) ∧ m ≤ 100000 ∧ q_chk m (q_nu m (rwj g2 s2 j2)) = 0) = true := q_dec_iff.2 ⟨⟨⟨_, _, _, rfl⟩, by omega, hc⟩, ⟨_, _, _, rfl⟩, by omega, chk_in hm hV (fun _ _ _ _ => rfl)⟩
    rw [l1_p, if_neg (by simp <;> omega), if_pos hd, if_pos hd, if_neg (by simp)]
    exact l2_all fl n m hn hm hfl g g2 sx s2 jx j2 Mr nm _
  | succ r ih =>
    intro i m1 s2 hi h1
    obtain ⟨m1, rfl⟩ : ∃ m', m1 = m' + 1 := ⟨m1 - 1, by omega⟩
    rw [l1_p, if_pos (by simp <;> omega), Int.toNat_natCast, W_nat (by omega)]
    split
    · rename_i z
      have hz : nm.size < 100 := by
        by_cases y : nm.size < 100
        · exact y
        · have : decide ((nm.size : Int) < 100) = false := by simp <;> omega
          simp [this] at z
      obtain ⟨s', e⟩ := nm_put g2 s2 j2 i { data := { toList := 112 :: 108 :: 97 :: 99 :: 101 :: 46 :: nm.1.1 } }
      rw [chk_true (by simp <;> omega), chk_true (by simp <;> omega), if_pos (by simp <;> omega)]
      have i1 := ih (i + 1) m1 s' (by omega) (by omega)
      rw [← e] at i1
      exact i1
    · exact ih (i + 1) m1 s2 (by omega) (by omega)
theorem l1z_loop (fl m : Nat) (hm : m ≤ 10) (hfl : 0 < fl) (g2 : Nat → Nat → Int) (j2 Mr : Nat → Nat → PS) (nm : ByteArray) (hV : Vd m g2) : ∀ (r i m1 : Nat) (s2 : Nat → Nat → ByteArray), i + r = m → r < m1 →
    rounds (yL fl pL1) (kL fl pL1) m1 (hL1 m (.view 0 12 zrow) nm Mr (i : Nat)) [(40, .rows 28 12 m (rwj g2 s2 j2))] = some (bl true, []) := by
  intro r
  induction r with
  | zero =>
    intro i m1 s2 hi h1
    obtain ⟨m1, rfl⟩ : ∃ m', m1 = m' + 1 := ⟨m1 - 1, by omega⟩
    have hd : q_dec ((q_isRw zrow ∧ 0 ≤ 100000 ∧ (0 : Int) = 0) ∧ q_isRw (rwj g2 s2 j2) ∧ m ≤ 100000 ∧ q_chk m (q_nu m (rwj g2 s2 j2)) = 0) = true := q_dec_iff.2 ⟨⟨⟨_, _, _, rfl⟩, by omega, rfl⟩, ⟨_, _, _, rfl⟩, by omega, chk_in hm hV (fun _ _ _ _ => rfl)⟩
    rw [l1_z, if_neg (by simp <;> omega), if_pos hd, if_pos hd]
    exact l2_all fl 0 m (by omega) hm hfl (fun _ _ => 0) g2 (fun _ _ => emp) s2 (fun _ _ => .nilp) j2 Mr nm _
  | succ r ih =>
    intro i m1 s2 hi h1
    obtain ⟨m1, rfl⟩ : ∃ m', m1 = m' + 1 := ⟨m1 - 1, by omega⟩
    rw [l1_z, if_pos (by simp <;> omega), Int.toNat_natCast, W_nat (by omega)]
    split
    · rename_i z
      have hz : nm.size < 100 := by
        by_cases y : nm.size < 100
        · exact y
        · have : decide ((nm.size : Int) < 100) = false := by simp <;> omega
          simp [this] at z
      obtain ⟨s', e⟩ := nm_put g2 s2 j2 i { data := { toList := 112 :: 108 :: 97 :: 99 :: 101 :: 46 :: nm.1.1 } }
      rw [chk_true (by simp <;> omega), chk_true (by simp <;> omega), if_pos (by simp <;> omega)]
      have i1 := ih (i + 1) m1 s' (by omega) (by omega)
      rw [← e] at i1
      exact i1
    · exact ih (i + 1) m1 s2 (by omega) (by omega)
theorem lit_is (s : ByteArray) : q_isRw (litRow 12 [.int .i64 1, .int .i64 0, .int .i64 0, .int .i64 0, .int .i64 0, .int .i64 0, .int .i64 0, .int .i64 0, .int .i64 0, .int .i64 0, .str s, .str emp]) :=
  ⟨fun _ j => if j = 0 then 1 else 0, fun _ j => if j = 10 then s else emp, fun _ _ => .nilp, by
    funext i j
    exact lit_rw (fun j => if j = 0 then 1 else 0) s emp i j⟩
theorem mk_eq (n m : Nat) (g g2 : Nat → Nat → Int) (sx s2 : Nat → Nat → ByteArray) (jx j2 : Nat → Nat → PS) (nm : ByteArray) : callF prog gl DL 12 O20 0 3 [sv n (rwj g sx jx), sv m (rwj g2 s2 j2), .one (.str nm)] [] = some (bl true, []) := by
  cases n with
  | zero =>
    cases m with
    | zero =>
      rw [l_zz 11, if_pos (q_dec_iff.2 ⟨⟨⟨_, _, _, rfl⟩, by omega, rfl⟩, lit_is _, by omega, rfl⟩)]
      have hd : q_dec ((q_isRw zrow ∧ 0 ≤ 100000 ∧ (0 : Int) = 0) ∧ q_isRw zrow ∧ 0 ≤ 100000 ∧ (0 : Int) = 0) = true := q_dec_iff.2 ⟨⟨⟨_, _, _, rfl⟩, by omega, rfl⟩, ⟨_, _, _, rfl⟩, by omega, rfl⟩
      rw [if_pos hd, if_pos hd]
    | succ m =>
      rw [l_zp, if_pos (q_dec_iff.2 ⟨⟨⟨_, _, _, rfl⟩, by omega, rfl⟩, lit_is _, by omega, rfl⟩), if_pos (q_dec_iff.2 ⟨by omega, ⟨_, _, _, rfl⟩⟩)]
      exact l1z_loop 12 (min (m + 1) 10) (by omega) (by omega) _ _ _ nm (shG_vd _ (by omega) _) (min (m + 1) 10) 0 12 _ (by omega) (by omega)
  | succ n =>
    have hV := shG_vd (min (n + 1) 10) (by omega) (q_nu (n + 1) (rwj g sx jx))
    have hc : ∀ (s : Nat → Nat → ByteArray) (j : Nat → Nat → PS), q_chk (min (n + 1) 10) (q_nu (min (n + 1) 10) (rwj (q_shG true (q_nu (n + 1) (rwj g sx jx))) s j)) = 0 := fun s j => chk_in (by omega) hV (fun _ _ _ _ => rfl)
    cases m with
    | zero =>
      rw [l_pz, if_pos (q_dec_iff.2 ⟨⟨⟨_, _, _, rfl⟩, by omega, rfl⟩, lit_is _, by omega, rfl⟩), if_pos (q_dec_iff.2 ⟨by omega, ⟨_, _, _, rfl⟩⟩)]
      refine (l1_pz 12 11 (min (n + 1) 10) _ _ _ _ nm).trans ?_
      have hd : q_dec ((q_isRw (rwj (q_shG true (q_nu (n + 1) (rwj g sx jx))) (q_shS (q_tx2 (n + 1) (rwj g sx jx))) (fun _ _ => .nilp)) ∧ min (n + 1) 10 ≤ 100000 ∧ q_chk (min (n + 1) 10) (q_nu (min (n + 1) 10) (rwj (q_shG true (q_nu (n + 1) (rwj g sx jx))) (q_shS (q_tx2 (n + 1) (rwj g sx jx))) (fun _ _ => .nilp))) = 0) ∧ q_isRw zrow ∧ 0 ≤ 100000 ∧ (0 : Int) = 0) = true := q_dec_iff.2 ⟨⟨⟨_, _, _, rfl⟩, by omega, hc _ _⟩, ⟨_, _, _, rfl⟩, by omega, rfl⟩
      rw [if_pos hd, if_pos hd, if_neg (by simp)]
      exact l2_all 12 (min (n + 1) 10) 0 (by omega) (by omega) (by omega) _ (fun _ _ => 0) _ (fun _ _ => emp) _ (fun _ _ => .nilp) _ nm _
    | succ m =>
      rw [l_pp, if_pos (q_dec_iff.2 ⟨⟨⟨_, _, _, rfl⟩, by omega, rfl⟩, lit_is _, by omega, rfl⟩), if_pos (q_dec_iff.2 ⟨by omega, ⟨_, _, _, rfl⟩⟩), if_pos (q_dec_iff.2 ⟨by omega, ⟨_, _, _, rfl⟩⟩)]
      exact l1p_loop 12 (min (n + 1) 10) (min (m + 1) 10) (by omega) (by omega) (by omega) _ _ _ _ _ _ nm (hc _ _) (shG_vd _ (by omega) _) (min (m + 1) 10) 0 12 _ (by omega) (by omega)
end Go.Proofs.Ytobfnncpjkeloaa.Sh
