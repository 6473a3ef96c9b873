import Derived.Test.YtgipgiejdbhpkaaDoorSxS
namespace Go.Proofs.YtgipgiejdbhpkaaDoor.Sh
open Go Go.RowKit Go.Proofs.YtgipgiejdbhpkaaDoor.Ev Go.Proofs.Tryd
set_option maxRecDepth 1000000
set_option linter.unusedVariables false
/-! aligning twice -/
def Mem (m : Nat) (B : Nat → Nat → Int) (i : Nat) : Prop := ∃ k, k < m ∧ B k 0 = (i : Int) + 1
def q_col (s : Int) : Nat := if q_ax s = 0 then 3 else 4
theorem ag_spec {n m : Nat} {g B : Nat → Nat → Int} {s : Int} (hB : q_it n m B) :
    (∀ i j, i < n → (j ≠ q_col s ∨ ¬ Mem m B i) → q_ag g m B s i j = g i j) ∧ ∃ lo hi, (∀ i, i < n → Mem m B i → lo ≤ q_el (g i) (q_ax s) ∧ q_eh (g i) (q_ax s) ≤ hi ∧ q_ag g m B s i (q_col s) = g i (q_col s) + q_by s lo hi (q_el (g i) (q_ax s)) (q_eh (g i) (q_ax s))) ∧ (∃ i, i < n ∧ Mem m B i ∧ lo = q_el (g i) (q_ax s)) ∧ ∃ i, i < n ∧ Mem m B i ∧ hi = q_eh (g i) (q_ax s) := by
  obtain ⟨hC, hI, hP⟩ := at_spec hB
  have hm := hB.1.1
  have frm : ∀ p, p < m → Mem m B (q_at m B p 0).toNat := fun p hp => by
    obtain ⟨k, hk, e⟩ := hP.1 p hp
    have e : q_at m B p 0 = B k 0 - 1 := e
    have := hC p hp
    exact ⟨k, hk, by omega⟩
  have tom : ∀ i, i < n → Mem m B i → ∃ p, p < m ∧ (q_at m B p 0).toNat = i := fun i hi ⟨k, hk, e⟩ => by
    obtain ⟨p, hp, e2⟩ := hP.2 k hk
    have e2 : q_at m B p 0 = B k 0 - 1 := e2
    exact ⟨p, hp, by omega⟩
  have lt : ∀ p, p < m → (q_at m B p 0).toNat < n := fun p hp => by have := hC p hp; omega
  refine ⟨fun i j hi hj => ?_, q_lw g (q_ax s) (q_at m B) m, q_hw g (q_ax s) (q_at m B) m, fun i hi hM => ?_, ?_, ?_⟩
  · unfold q_ag
    refine mv_far m (fun e q hq e2 => ?_)
    rcases hj with hj | hj
    · exact hj e
    · exact hj (e2 ▸ frm q hq)
  · obtain ⟨p, hp, rfl⟩ := tom i hi hM
    refine ⟨lw_le m p hp, hw_ge m p hp, ?_⟩
    unfold q_ag q_col
    exact mv_at hI m (Nat.le_refl m) hp
  · obtain ⟨p, hp, e⟩ := lw_is (g := g) (a := q_ax s) (C := q_at m B) m hm
    exact ⟨_, lt p hp, frm p hp, e⟩
  · obtain ⟨p, hp, e⟩ := hw_is (g := g) (a := q_ax s) (C := q_at m B) m hm
    exact ⟨_, lt p hp, frm p hp, e⟩
theorem col_c {s : Int} : q_col s = 3 ∨ q_col s = 4 := by unfold q_col; split <;> omega
theorem el_col {c : Nat → Int} {s : Int} (h : c 7 = 0) (h5 : 0 ≤ c 5) (h6 : 0 ≤ c 6) : q_el c (q_ax s) = c (q_col s) ∧ q_eh c (q_ax s) = c (q_col s) + c (q_col s + 2) := by
  obtain ⟨e1, e2⟩ := el_0 h h5 h6 (q_ax s)
  rw [e1, e2]
  unfold q_col
  by_cases c0 : q_ax s = 0
  · rw [if_pos c0, if_pos c0, if_pos c0]; exact ⟨rfl, rfl⟩
  · rw [if_neg c0, if_neg c0, if_neg c0]; exact ⟨rfl, rfl⟩
/-- In a small range. -/
def Bd (n : Nat) (g : Nat → Nat → Int) (A : Int) : Prop := ∀ i, i < n → (-A ≤ g i 3 ∧ g i 3 ≤ A) ∧ -A ≤ g i 4 ∧ g i 4 ≤ A
theorem ag_facts {n m : Nat} {g B : Nat → Nat → Int} {s : Int} (hg : q_gd n g) (hb : Bd n g 2000) (hB : q_it n m B) : q_gd n (q_ag g m B s) ∧
    (s.tmod 3 = 0 → ∃ lo, (-2000 ≤ lo ∧ lo ≤ 2000) ∧ ∀ i, i < n → Mem m B i → q_ag g m B s i (q_col s) = lo) ∧ (s.tmod 3 ≠ 0 → s.tmod 3 ≠ 1 → ∃ hi, (-2000 ≤ hi ∧ hi ≤ 3500) ∧ ∀ i, i < n → Mem m B i → q_ag g m B s i (q_col s) + g i (q_col s + 2) = hi) := by
  obtain ⟨h1, lo, hi, h2, ⟨i1, hi1, hM1, h3⟩, i2, hi2, hM2, h4⟩ := ag_spec (g := g) (s := s) hB
  have el := fun i (hi : i < n) => el_col (c := g i) (s := s) (hg.2 i hi).2.2.2.2.2.2.2.1 (hg.2 i hi).2.2.2.2.2.1.1 (hg.2 i hi).2.2.2.2.2.2.1.1
  have bc : ∀ i, i < n → (-2000 ≤ g i (q_col s) ∧ g i (q_col s) ≤ 2000) ∧ 0 ≤ g i (q_col s + 2) ∧ g i (q_col s + 2) ≤ 1500 := fun i hi => by
    have b := hb i hi
    have w := (hg.2 i hi).2.2.2.2.2.1
    have h := (hg.2 i hi).2.2.2.2.2.2.1
    rcases col_c (s := s) with c | c <;> rw [c]
    · exact ⟨b.1, w⟩
    · exact ⟨b.2, h⟩
  have l1 := el i1 hi1
  have l2 := el i2 hi2
  have b1 := bc i1 hi1
  have b2 := bc i2 hi2
  have byB : ∀ i, i < n → Mem m B i → -12000 ≤ q_ag g m B s i (q_col s) ∧ q_ag g m B s i (q_col s) ≤ 12000 := fun i hin hM => by
    obtain ⟨_, _, e⟩ := h2 i hin hM
    have b := bc i hin
    have l := el i hin
    rw [e]
    have : -9000 ≤ q_by s lo hi (q_el (g i) (q_ax s)) (q_eh (g i) (q_ax s)) ∧ q_by s lo hi (q_el (g i) (q_ax s)) (q_eh (g i) (q_ax s)) ≤ 9000 := by
      unfold q_by
      split
      · omega
      · split
        · unfold q_round; omega
        · omega
    omega
  refine ⟨⟨hg.1, fun i hin => ?_⟩, fun hs => ⟨lo, by omega, fun i hin hM => ?_⟩, fun hs0 hs1 => ⟨hi, by omega, fun i hin hM => ?_⟩⟩
  · obtain ⟨a0, a1, a2, a3, a4, a5, a6, a7, a8, a9, a10⟩ := hg.2 i hin
    have same : ∀ j, j ≠ 3 → j ≠ 4 → q_ag g m B s i j = g i j := fun j h3 h4 => h1 i j hin (.inl (by rcases col_c (s := s) with c | c <;> omega))
    have bb : ∀ j, j = 3 ∨ j = 4 → -20000 ≤ q_ag g m B s i j ∧ q_ag g m B s i j ≤ 20000 := fun j hj => by
      by_cases c : j = q_col s ∧ Mem m B i
      · have := byB i hin c.2
        rw [c.1]; omega
      · rw [h1 i j hin (by
          by_cases c1 : j = q_col s
          · exact .inr (fun h => c ⟨c1, h⟩)
          · exact .inl c1)]
        rcases hj with rfl | rfl <;> omega
    rw [same 0 (by omega) (by omega), same 1 (by omega) (by omega), same 2 (by omega) (by omega), same 5 (by omega) (by omega), same 6 (by omega) (by omega), same 7 (by omega) (by omega), same 8 (by omega) (by omega), same 9 (by omega) (by omega)]
    exact ⟨a0, a1, a2, bb 3 (.inl rfl), bb 4 (.inr rfl), a5, a6, a7, a8, a9, a10⟩
  · obtain ⟨_, _, e⟩ := h2 i hin hM
    have l := el i hin
    rw [e, show q_by s lo hi (q_el (g i) (q_ax s)) (q_eh (g i) (q_ax s)) = lo - q_el (g i) (q_ax s) from if_pos hs]
    omega
  · obtain ⟨_, _, e⟩ := h2 i hin hM
    have l := el i hin
    have e2 : q_by s lo hi (q_el (g i) (q_ax s)) (q_eh (g i) (q_ax s)) = hi - q_eh (g i) (q_ax s) := by unfold q_by; rw [if_neg hs0, if_neg hs1]
    rw [e, e2]
    omega
theorem ag_twice {n m : Nat} {g B : Nat → Nat → Int} {s : Int} (hg : q_gd n g) (hb : Bd n g 2000) (hB : q_it n m B) (hs : s.tmod 3 ≠ 1) : ∀ i j, i < n → j < 10 → q_ag (q_ag g m B s) m B s i j = q_ag g m B s i j := by
  obtain ⟨hG, f0, f2⟩ := ag_facts (s := s) hg hb hB
  obtain ⟨k1, _⟩ := ag_spec (g := g) (s := s) hB
  obtain ⟨h1, lo, hi, h2, ⟨i1, hi1, hM1, h3⟩, i2, hi2, hM2, h4⟩ := ag_spec (g := q_ag g m B s) (s := s) hB
  have el := fun i (hi : i < n) => el_col (c := q_ag g m B s i) (s := s) (hG.2 i hi).2.2.2.2.2.2.2.1 (hG.2 i hi).2.2.2.2.2.1.1 (hG.2 i hi).2.2.2.2.2.2.1.1
  intro i j hin hj
  by_cases c : j = q_col s ∧ Mem m B i
  · obtain ⟨rfl, hM⟩ := c
    obtain ⟨_, _, e⟩ := h2 i hin hM
    rw [e]
    by_cases s0 : s.tmod 3 = 0
    · obtain ⟨lo', _, hl⟩ := f0 s0
      have e2 : q_by s lo hi (q_el (q_ag g m B s i) (q_ax s)) (q_eh (q_ag g m B s i) (q_ax s)) = lo - q_el (q_ag g m B s i) (q_ax s) := if_pos s0
      rw [e2, h3, (el i hin).1, (el i1 hi1).1, hl i hin hM, hl i1 hi1 hM1]
      omega
    · obtain ⟨hi', _, hl⟩ := f2 s0 hs
      have e2 : q_by s lo hi (q_el (q_ag g m B s i) (q_ax s)) (q_eh (q_ag g m B s i) (q_ax s)) = hi - q_eh (q_ag g m B s i) (q_ax s) := by unfold q_by; rw [if_neg s0, if_neg hs]
      have w : ∀ q, q < n → q_ag g m B s q (q_col s + 2) = g q (q_col s + 2) := fun q hq => k1 q _ hq (.inl (by omega))
      rw [e2, h4, (el i hin).2, (el i2 hi2).2, w i hin, w i2 hi2, hl i hin hM, hl i2 hi2 hM2]
      omega
  · exact h1 i j hin (by
      by_cases c1 : j = q_col s
      · exact .inr (fun h => c ⟨c1, h⟩)
      · exact .inl c1)
/-! ShapeAlignedTwice: the last loop -/
theorem bif2 {a b : Bool} : (bif a then b else false) = (a && b) := by cases a <;> rfl
theorem bif1 {a b : Bool} : (bif a then true else b) = (a || b) := by cases a <;> rfl
theorem z3_step (fl mm N m o i : Nat) (g ga C : Nat → Nat → Int) (sx sa : Nat → Nat → ByteArray) (jx ja b r2 K : Nat → Nat → PS) (s q i1 : Int) (hi : i < N) (hN : N ≤ 10) (ho : 0 < o ∧ o ≤ 10) (e0 : g i 0 = (i : Int) + 1) (hu : 1 ≤ C 0 0 ∧ C 0 0 ≤ N) (hf : 0 ≤ s ∧ s < 6)
    (cs : sa i 10 = sx i 10 ∧ sa i 11 = sx i 11) (c1 : q_fd o (cut o 1 C) ((i : Int) + 1) < 0 → ∀ j, j < 10 → ga i j = g i j) (c2 : s < 3 → ga i 4 = g i 4) (c2' : 3 ≤ s → ga i 3 = g i 3)
    (c3 : 0 ≤ q_fd o (cut o 1 C) ((i : Int) + 1) → (s = 0 → ga i 3 = ga (C 0 0 - 1).toNat 3) ∧ (s = 2 → ga i 3 + ga i 5 = ga (C 0 0 - 1).toNat 3 + ga (C 0 0 - 1).toNat 5) ∧ (s = 3 → ga i 4 = ga (C 0 0 - 1).toNat 4) ∧ (s = 5 → ga i 4 + ga i 6 = ga (C 0 0 - 1).toNat 4 + ga (C 0 0 - 1).toNat 6)) :
    rounds (zL fl pL3) (zK fl pL3) (mm + 1) (hL3 N m o (rwj g sx jx) (rwj ga sa ja) b r2 (rj 1 C K) s q i1 (i : Nat)) [] = rounds (zL fl pL3) (zK fl pL3) mm (hL3 N m o (rwj g sx jx) (rwj ga sa ja) b r2 (rj 1 C K) s q i1 ((i + 1 : Nat) : Int)) [] := by
  have hn : q_num o 1 (rj 1 C K) = cut o 1 C := num_rj
  have wu : W (C 0 0 - 1) = C 0 0 - 1 := W_id (by omega) (by omega)
  rw [z3_st]
  simp only [Int.toNat_natCast, hn, e0, wu, bif1, bif2]
  have hJ : q_dec (q_isJ 1 (rj 1 C K) ∧ o ≤ 100000) = true := q_dec_iff.2 ⟨⟨C, K, rfl⟩, by omega⟩
  have ci : (decide ((0 : Int) ≤ (i : Int)) && decide ((i : Int) < (N : Int))) = true := by simp <;> omega
  have n2 : (decide (s < 3) && (ga i 4 != g i 4) || decide (s ≥ 3) && (ga i 3 != g i 3)) = false := by
    by_cases h : s < 3
    · rw [c2 h, decide_eq_false (show ¬ s ≥ 3 by omega)]; simp
    · rw [c2' (by omega), decide_eq_false h]; simp
  rw [if_pos (by simpa using hi), chk_true ci, if_pos hJ, chk_true ci, if_neg (by
    by_cases h : q_fd o (cut o 1 C) ((i : Int) + 1) < 0
    · have c := c1 h
      rw [← e0, c 0 (by omega), c 1 (by omega), c 2 (by omega), c 3 (by omega), c 4 (by omega), c 5 (by omega), c 6 (by omega), c 7 (by omega), c 8 (by omega), c 9 (by omega), cs.1, cs.2, strEq_self, strEq_self]
      simp
    · rw [decide_eq_true (show q_fd o (cut o 1 C) ((i : Int) + 1) ≥ 0 by omega)]; simp), chk_true ci, chk_true ci, n2, if_neg (by decide), chk_true ci, chk_true (by simp <;> omega), chk_true (by simp <;> omega), if_pos hJ, if_neg (by
    by_cases h : q_fd o (cut o 1 C) ((i : Int) + 1) < 0
    · rw [decide_eq_false (show ¬ q_fd o (cut o 1 C) ((i : Int) + 1) ≥ 0 by omega)]; simp
    · obtain ⟨d0, d2, d3, d5⟩ := c3 (by omega)
      have hs : s = 0 ∨ s = 1 ∨ s = 2 ∨ s = 3 ∨ s = 4 ∨ s = 5 := by omega
      rcases hs with rfl | rfl | rfl | rfl | rfl | rfl
      · rw [d0 rfl]; simp
      · simp
      · rw [d2 rfl]; simp
      · rw [d3 rfl]; simp
      · simp
      · rw [d5 rfl]; simp), W_nat (by omega)]
theorem mem_fd {o : Nat} {C : Nat → Nat → Int} {i : Nat} : 0 ≤ q_fd o (cut o 1 C) ((i : Int) + 1) ↔ Mem o C i := by
  rcases fd_spec o (cut o 1 C) ((i : Int) + 1) with ⟨h1, h2⟩ | ⟨k, h2, h3, h4, _⟩
  · rw [h1]
    refine ⟨fun h => by omega, fun ⟨k, hk, e⟩ => absurd ?_ (h2 k hk)⟩
    rw [cut_in hk (by omega)]; exact e
  · rw [h3]
    refine ⟨fun _ => ⟨k, h2, ?_⟩, fun _ => by omega⟩
    rw [cut_in h2 (by omega)] at h4; exact h4
/-- Behind the loop that collects the items: some of them are there. -/
theorem z2_end (fl mm N m o : Nat) (hfl : 20 ≤ fl) (g C : Nat → Nat → Int) (sx : Nat → Nat → ByteArray) (jx J K : Nat → Nat → PS) (B : Nat → Nat → Int) (s q : Int) (hg : q_gd N g) (hb : Bd N g 2000) (hB : q_it N o C) (hs : 0 ≤ s ∧ s < 6) :
    rounds (zL fl pL2) (zK fl pL2) (mm + 1) (hL2 N m (rj 1 B J) (.os 23) (.os 57) s q (m : Nat)) [(57, .rows 3 1 o (rj 1 C K)), (23, .rows 26 12 N (rwj g sx jx))] = some (bl true, []) := by
  have hN := hg.1
  have ho := hB.1
  have hnum : q_num o 1 (rj 1 C K) = cut o 1 C := num_rj
  have hB' : q_it N o (cut o 1 C) := it_cg (fun k hk => (cut_in hk (by omega)).symm) hB
  have hg' : q_gd N (cutG N g) := gd_cg (fun i j hi hj => (cutG_in hi hj).symm) hg
  have hb' : Bd N (cutG N g) 2000 := fun i hi => by rw [cutG_in hi (by omega), cutG_in hi (by omega)]; exact hb i hi
  rw [z2_st, if_neg (by simp)]
  simp only [nu_rwj, tx_rwj, hnum]
  have nq : ∀ G S, q_nu N (q_rw G S) = cutG N G := fun G S => nu_rwj
  have tq : ∀ G S, q_tx2 N (q_rw G S) = cutS N S := fun G S => tx_rwj
  simp only [nq, tq]
  obtain ⟨hG, f0, f2⟩ := ag_facts (s := s) hg' hb' hB'
  obtain ⟨k1, _⟩ := ag_spec (g := cutG N g) (s := s) hB'
  have htw := fun h => ag_twice (s := s) hg' hb' hB' h
  have hcut := fun i j hi hj => ag_cg (g := cutG N (q_ag (cutG N g) o (cut o 1 C) s)) (g' := q_ag (cutG N g) o (cut o 1 C) s) (s := s) ho.1 (fun i j hi hj => cutG_in hi hj) (fun _ _ => rfl) (at_spec hB').1 i j hi hj
  generalize hga : q_ag (cutG N g) o (cut o 1 C) s = ga at *
  rw [if_pos (q_dec_iff.2 ⟨⟨⟨g, sx, jx, rfl⟩, by rw [nu_rwj]; exact hg'⟩, ⟨⟨C, K, rfl⟩, by rw [hnum]; exact hB'⟩, hs⟩), if_pos (q_dec_iff.2 ⟨⟨⟨ga, cutS N sx, _, rfl⟩, by rw [nq]; exact gd_cg (fun i j hi hj => (cutG_in hi hj).symm) hG⟩, ⟨⟨C, K, rfl⟩, by rw [hnum]; exact hB'⟩, hs⟩)]
  have key : rounds (zL fl pL3) (zK fl pL3) fl (hL3 N m o (rwj g sx jx) (q_rw ga (cutS N sx)) (q_rw (q_ag (cutG N ga) o (cut o 1 C) s) (cutS N (cutS N sx))) (rj 1 B J) (rj 1 C K) s q (m : Nat) ((0 : Nat) : Int)) [] = some (bl true, []) := by
    refine loop_ex (body := zL fl pL3) (K := zK fl pL3) (σ := Unit) (fun i _ => hL3 N m o (rwj g sx jx) (q_rw ga (cutS N sx)) (q_rw (q_ag (cutG N ga) o (cut o 1 C) s) (cutS N (cutS N sx))) (rj 1 B J) (rj 1 C K) s q (m : Nat) ((i : Nat) : Int)) (fun _ _ => []) (fun _ _ => True) N (Z := fun z => z = some (bl true, [])) ?_ ?_ fl 0 () (by omega) (by omega) trivial
    · intro i _ mm hi _
      refine ⟨(), trivial, ?_⟩
      have e0 := (hg.2 i hi).1
      have far : ∀ j, j < 10 → (j ≠ q_col s ∨ ¬ Mem o (cut o 1 C) i) → ga i j = g i j := fun j hj h => (k1 i j hi h).trans (cutG_in hi hj)
      have hcol : (s < 3 → q_col s = 3) ∧ (3 ≤ s → q_col s = 4) := by
        have hs' : s = 0 ∨ s = 1 ∨ s = 2 ∨ s = 3 ∨ s = 4 ∨ s = 5 := by omega
        rcases hs' with rfl | rfl | rfl | rfl | rfl | rfl <;> exact ⟨fun h => by first | rfl | omega, fun h => by first | rfl | omega⟩
      have mm1 : Mem o (cut o 1 C) i ↔ Mem o C i := ⟨fun ⟨k, hk, e⟩ => ⟨k, hk, by rw [cut_in hk (by omega)] at e; exact e⟩, fun ⟨k, hk, e⟩ => ⟨k, hk, by rw [cut_in hk (by omega)]; exact e⟩⟩
      have hu := hB.2.1 0 ho.1
      have mu : Mem o (cut o 1 C) (C 0 0 - 1).toNat := ⟨0, ho.1, by rw [cut_in ho.1 (by omega)]; omega⟩
      refine z3_step fl mm N m o i g ga C sx (cutS N sx) jx _ _ (rj 1 B J) K s q (m : Nat) hi hN ho e0 hu hs ⟨if_pos ⟨hi, .inl rfl⟩, if_pos ⟨hi, .inr rfl⟩⟩ (fun h j hj => far j hj (.inr (fun hM => ?_))) (fun h => far 4 (by omega) (.inl ?_)) (fun h => far 3 (by omega) (.inl ?_)) (fun h => ?_)
      · have := mem_fd.2 (mm1.1 hM); omega
      · rw [hcol.1 h]; omega
      · rw [hcol.2 h]; omega
      · have hM := mm1.2 (mem_fd.1 h)
        have hun : (C 0 0 - 1).toNat < N := by omega
        have wd : ∀ q j, q < N → j < 10 → j ≠ 3 → j ≠ 4 → ga q j = cutG N g q j := fun q j hq hj h3 h4 => k1 q j hq (.inl (by rcases col_c (s := s) with c | c <;> omega))
        refine ⟨fun e => ?_, fun e => ?_, fun e => ?_, fun e => ?_⟩
        · subst e
          obtain ⟨lo, _, hl⟩ := f0 (by decide)
          exact (hl i hi hM).trans (hl _ hun mu).symm
        · subst e
          obtain ⟨hh, _, hl⟩ := f2 (by decide) (by decide)
          rw [wd i 5 hi (by omega) (by omega) (by omega), wd _ 5 hun (by omega) (by omega) (by omega)]
          exact (hl i hi hM).trans (hl _ hun mu).symm
        · subst e
          obtain ⟨lo, _, hl⟩ := f0 (by decide)
          exact (hl i hi hM).trans (hl _ hun mu).symm
        · subst e
          obtain ⟨hh, _, hl⟩ := f2 (by decide) (by decide)
          rw [wd i 6 hi (by omega) (by omega) (by omega), wd _ 6 hun (by omega) (by omega) (by omega)]
          exact (hl i hi hM).trans (hl _ hun mu).symm
    · intro _ mm _
      unfold q_rw
      rw [z3_st, if_neg (by simp)]
  by_cases h14 : s = 1 ∨ s = 4
  · rw [if_neg (by rcases h14 with rfl | rfl <;> simp), if_neg (by rcases h14 with rfl | rfl <;> simp)]
    exact key
  · have hs3 : s.tmod 3 ≠ 1 := by
      have hs' : s = 0 ∨ s = 2 ∨ s = 3 ∨ s = 5 := by omega
      rcases hs' with rfl | rfl | rfl | rfl <;> decide
    have hcs : ∀ i j, i < N → j = 10 ∨ j = 11 → cutS N sx i j = cutS N (cutS N sx) i j := fun i j hi hj => by unfold cutS; rw [if_pos ⟨hi, hj⟩, if_pos ⟨hi, hj⟩]
    rw [if_pos (by
      have e1 : (s != 1) = true := by simp; omega
      have e4 : (s != 4) = true := by simp; omega
      rw [e1, e4]; simp), if_pos (q_dec_iff.2 ⟨⟨rfl, by omega⟩, ga, _, cutS N sx, _, _, _, rfl, rfl, fun i hi => ⟨fun j hj => ((hcut i j hi hj).trans (htw hs3 i j hi hj)).symm, hcs i 10 hi (.inl rfl), hcs i 11 hi (.inr rfl)⟩⟩), if_neg (by
      have e1 : (s != 1) = true := by simp; omega
      have e4 : (s != 4) = true := by simp; omega
      rw [e1, e4]; simp)]
    exact key
/-! ShapeAlignedTwice -/
/-- As many places as numbers, at most. -/
theorem php : ∀ (N o : Nat) (f : Nat → Nat), (∀ k, k < o → f k < N) → (∀ i j, i < o → j < o → f i = f j → i = j) → o ≤ N := by
  intro N
  induction N with
  | zero =>
    intro o f h _
    rcases Nat.eq_zero_or_pos o with e | e
    · omega
    · have := h 0 e; omega
  | succ N ih =>
    intro o f h hi
    by_cases c : ∃ k, k < o ∧ f k = N
    · obtain ⟨k, hk, e⟩ := c
      have : o - 1 ≤ N := by
        refine ih (o - 1) (fun q => f (if q < k then q else q + 1)) (fun q hq => ?_) (fun i j h1 h2 h3 => ?_)
        · have h1 := h (if q < k then q else q + 1) (by split <;> omega)
          have h2 : f (if q < k then q else q + 1) ≠ N := fun e2 => by
            have := hi _ k (by split <;> omega) hk (e2.trans e.symm)
            split at this <;> omega
          show f (if q < k then q else q + 1) < N
          omega
        · have := hi _ _ (by split <;> omega) (by split <;> omega) h3
          split at this <;> split at this <;> omega
      omega
    · have := ih o f (fun k hk => by
        have := h k hk
        have : f k ≠ N := fun e => c ⟨k, hk, e⟩
        omega) hi
      omega
theorem z2_loop (fl N m : Nat) (hfl : 20 ≤ fl) (hm : m ≤ 9223372036854775807) (g : Nat → Nat → Int) (sx : Nat → Nat → ByteArray) (jx J : Nat → Nat → PS) (B : Nat → Nat → Int) (s q : Int) (hg : q_gd N g) (hb : Bd N g 2000) (hN : 0 < N) (hs : 0 ≤ s ∧ s < 6) : ∀ (r i mm : Nat), i + r = m → r < mm →
    rounds (zL fl pL2) (zK fl pL2) mm (hL2 N m (rj 1 B J) (.os 23) .nils s q (i : Nat)) [(23, .rows 26 12 N (rwj g sx jx))] = some (bl true, []) ∧
    ∀ o C K, q_it N o C → rounds (zL fl pL2) (zK fl pL2) mm (hL2 N m (rj 1 B J) (.os 23) (.os 57) s q (i : Nat)) [(57, .rows 3 1 o (rj 1 C K)), (23, .rows 26 12 N (rwj g sx jx))] = some (bl true, []) := by
  have hN10 := hg.1
  intro r
  induction r with
  | zero =>
    intro i mm hi hmm
    obtain ⟨mm, rfl⟩ : ∃ m', mm = m' + 1 := ⟨mm - 1, by omega⟩
    obtain rfl : i = m := by omega
    refine ⟨?_, fun o C K hB => z2_end fl mm N i o hfl g C sx jx J K B s q hg hb hB hs⟩
    rw [z2_one, if_neg (by simp), if_pos (q_dec_iff.2 ⟨⟨g, sx, jx, rfl⟩, by omega, by rw [nu_rwj, chk_cg (g' := g) (fun k j hk hj => cutG_in hk hj)]; exact gd_chk (gd_2 hg)⟩)]
  | succ r ih =>
    intro i mm hi hmm
    obtain ⟨mm, rfl⟩ : ∃ m', mm = m' + 1 := ⟨mm - 1, by omega⟩
    obtain ⟨ih1, ih2⟩ := ih (i + 1) mm (by omega) (by omega)
    have hk := within_in (B i 0) 1 10 (by omega)
    have ci : (decide ((0 : Int) ≤ (i : Int)) && decide ((i : Int) < (m : Int))) = true := by simp <;> omega
    refine ⟨?_, fun o C K hB => ?_⟩
    · rw [z2_one, if_pos (by simp <;> omega), chk_true ci, Int.toNat_natCast, W_nat (by omega)]
      by_cases c : q_within (B i 0) 1 10 ≤ (N : Int)
      · rw [if_pos (by simpa using c), if_pos (by rw [decide_eq_true c]; rfl)]
        obtain ⟨K', e⟩ := app_rj 1 0 (fun _ _ => 0) (fun _ _ => .nilp) [q_within (B i 0) 1 10] rfl
        have e' : appRow 0 (fun _ _ => PS.nilp) (litRow 1 [PS.int .i64 (q_within (B i 0) 1 10)]) = rj 1 (appB 0 (fun _ _ => 0) [q_within (B i 0) 1 10]) K' := by
          rw [← e]; funext a b; rw [appRow_eq, appRow_eq, if_neg (by omega), if_neg (by omega)]; rfl
        rw [e']
        exact ih2 1 _ K' ⟨by omega, fun k hk1 => by
          obtain rfl : k = 0 := by omega
          show 1 ≤ q_within (B i 0) 1 10 ∧ q_within (B i 0) 1 10 ≤ N
          omega, fun a b ha hb' _ => by omega⟩
      · rw [if_neg (by simpa using c), if_neg (by rw [decide_eq_false c]; decide)]
        exact ih1
    · obtain ⟨ho, hB2, hB3⟩ := id hB
      have hnum : q_num o 1 (rj 1 C K) = cut o 1 C := num_rj
      rw [z2_st, if_pos (by simp <;> omega), chk_true ci, Int.toNat_natCast, W_nat (by omega), hnum]
      by_cases c : q_within (B i 0) 1 10 ≤ (N : Int)
      · rw [if_pos (by simpa using c), if_pos (q_dec_iff.2 ⟨⟨C, K, rfl⟩, by omega⟩), decide_eq_true c, cond_true]
        rcases fd_spec o (cut o 1 C) (q_within (B i 0) 1 10) with ⟨h1, h2⟩ | ⟨k, h2, h3, _⟩
        · rw [h1, if_pos (by decide), if_pos (by simp <;> omega)]
          obtain ⟨K', e⟩ := app_rj 1 o C K [q_within (B i 0) 1 10] rfl
          have e' : appRow o (rj 1 C K) (litRow 1 [PS.int .i64 (q_within (B i 0) 1 10)]) = rj 1 (appB o C [q_within (B i 0) 1 10]) K' := e
          rw [e']
          have at_ : ∀ k, k < o + 1 → appB o C [q_within (B i 0) 1 10] k 0 = if k < o then C k 0 else q_within (B i 0) 1 10 := fun k hk1 => rfl
          have new : ∀ k, k < o → C k 0 ≠ q_within (B i 0) 1 10 := fun k hk1 => by have := h2 k hk1; rwa [cut_in hk1 (by omega)] at this
          have r1 : ∀ k, k < o + 1 → 1 ≤ appB o C [q_within (B i 0) 1 10] k 0 ∧ appB o C [q_within (B i 0) 1 10] k 0 ≤ N := fun k hk1 => by
            rw [at_ k hk1]
            split
            · rename_i h; exact hB2 k h
            · omega
          have r2 : ∀ a b, a < o + 1 → b < o + 1 → appB o C [q_within (B i 0) 1 10] a 0 = appB o C [q_within (B i 0) 1 10] b 0 → a = b := fun a b ha hb' e2 => by
            rw [at_ a ha, at_ b hb'] at e2
            split at e2 <;> split at e2
            · rename_i h1 h2; exact hB3 a b h1 h2 e2
            · rename_i h1 h2; exact absurd e2 (new a h1)
            · rename_i h1 h2; exact absurd e2.symm (new b h2)
            · omega
          have cnt := php N (o + 1) (fun k => (appB o C [q_within (B i 0) 1 10] k 0 - 1).toNat) (fun k hk1 => by have := r1 k hk1; show (appB o C [q_within (B i 0) 1 10] k 0 - 1).toNat < N; omega) (fun a b ha hb' e2 => by
            have e2 : (appB o C [q_within (B i 0) 1 10] a 0 - 1).toNat = (appB o C [q_within (B i 0) 1 10] b 0 - 1).toNat := e2
            have := r1 a ha
            have := r1 b hb'
            exact r2 a b ha hb' (by omega))
          exact ih2 (o + 1) _ K' ⟨by omega, r1, r2⟩
        · rw [if_neg (by
            rw [h3, decide_eq_true (show ((k : Nat) : Int) ≥ 0 by omega)]; decide)]
          exact ih2 o C K hB
      · rw [if_neg (by simpa using c), if_neg (by rw [decide_eq_false c]; decide)]
        exact ih2 o C K hB
/-! the parents taken away -/
def q_zp (G : Nat → Nat → Int) : Nat → Nat → Nat → Int
  | 0 => G
  | k + 1 => putB (q_zp G k) k 1 0
theorem zp_at {G : Nat → Nat → Int} {i j : Nat} : ∀ k, q_zp G k i j = if i < k ∧ j = 1 then 0 else G i j := by
  intro k
  induction k with
  | zero => rw [if_neg (by omega)]; rfl
  | succ k ih =>
    simp only [q_zp]
    unfold putB
    rw [ih]
    by_cases c : i = k ∧ j = 1
    · rw [if_pos c, if_pos (by omega)]
    · rw [if_neg c]
      by_cases c2 : i < k ∧ j = 1
      · rw [if_pos c2, if_pos (by omega)]
      · rw [if_neg c2, if_neg (by omega)]
theorem zp_gd {N : Nat} (hN : N ≤ 10) (g : Nat → Nat → Int) : q_gd N (q_zp (q_shG false g) N) ∧ Bd N (q_zp (q_shG false g) N) 2000 := by
  have e : ∀ i j, i < N → q_zp (q_shG false g) N i j = if j = 1 then 0 else q_shG false g i j := fun i j hi => by
    rw [zp_at]
    by_cases c : j = 1
    · rw [if_pos ⟨hi, c⟩, if_pos c]
    · rw [if_neg (fun h => c h.2), if_neg c]
  have k := fun i => within_in (g i 2) 0 7 (by omega)
  have k3 := fun i => within_in (g i 3) (-2000) 2000 (by omega)
  have k4 := fun i => within_in (g i 4) (-2000) 2000 (by omega)
  have k5 := fun i => within_in (g i 5) 0 1500 (by omega)
  have k6 := fun i => within_in (g i 6) 0 1500 (by omega)
  have k8 := fun i => within_in (g i 8) 0 11 (by omega)
  have k9 := fun i => within_in (g i 9) 0 11 (by omega)
  have v : ∀ i, q_shG false g i 0 = i + 1 ∧ q_shG false g i 2 = q_within (g i 2) 0 7 ∧ q_shG false g i 3 = q_within (g i 3) (-2000) 2000 ∧ q_shG false g i 4 = q_within (g i 4) (-2000) 2000 ∧ q_shG false g i 5 = q_within (g i 5) 0 1500 ∧ q_shG false g i 6 = q_within (g i 6) 0 1500 ∧ q_shG false g i 7 = 0 ∧ q_shG false g i 8 = (if q_within (g i 2) 0 7 = 6 then q_within (g i 8) 0 11 else 0) ∧ q_shG false g i 9 = (if q_within (g i 2) 0 7 = 6 then q_within (g i 9) 0 11 else 0) := fun i => ⟨rfl, rfl, rfl, rfl, rfl, rfl, rfl, rfl, rfl⟩
  refine ⟨⟨hN, fun i hi => ?_⟩, fun i hi => ?_⟩
  · obtain ⟨v0, v2, v3, v4, v5, v6, v7, v8, v9⟩ := v i
    rw [e i 0 hi, e i 1 hi, e i 2 hi, e i 3 hi, e i 4 hi, e i 5 hi, e i 6 hi, e i 7 hi, e i 8 hi, e i 9 hi, if_neg (by omega), if_pos rfl, if_neg (by omega), if_neg (by omega), if_neg (by omega), if_neg (by omega), if_neg (by omega), if_neg (by omega), if_neg (by omega), if_neg (by omega), v0, v2, v3, v4, v5, v6, v7, v8, v9]
    have h := k i; have h3 := k3 i; have h4 := k4 i; have h5 := k5 i; have h6 := k6 i; have h8 := k8 i; have h9 := k9 i
    refine ⟨rfl, rfl, h, by omega, by omega, h5, h6, rfl, ?_, ?_, fun hne => ?_⟩
    · split <;> omega
    · split <;> omega
    · rw [if_neg hne, if_neg hne]; exact ⟨rfl, rfl⟩
  · obtain ⟨v0, v2, v3, v4, _⟩ := v i
    rw [e i 3 hi, e i 4 hi, if_neg (by omega), if_neg (by omega), v3, v4]
    exact ⟨k3 i, k4 i⟩
theorem at_eq (n m : Nat) (hm : m ≤ 9223372036854775807) (g : Nat → Nat → Int) (sx : Nat → Nat → ByteArray) (jx J : Nat → Nat → PS) (B : Nat → Nat → Int) (s : Int) : callF prog gl DL (m + 20) O27 0 4 [.one (.view (n + 1) 12 (rwj g sx jx)), .one (.view m 1 (rj 1 B J)), i64 s] [] = some (bl true, []) := by
  have hs := within_in s 0 5 (by omega)
  rw [z_pre, if_pos (q_dec_iff.2 ⟨by omega, ⟨g, sx, jx, rfl⟩⟩)]
  have hN : min (n + 1) 10 ≤ 10 := by omega
  have hN0 : 0 < min (n + 1) 10 := by omega
  generalize min (n + 1) 10 = N at *
  generalize q_nu (n + 1) (rwj g sx jx) = g0
  generalize q_shS (q_tx2 (n + 1) (rwj g sx jx)) = s0
  obtain ⟨hg, hb⟩ := zp_gd hN g0
  generalize q_shG false g0 = G at *
  refine loop_ex (body := zL (m + 20) pL1) (K := zK (m + 20) pL1) (σ := Unit) (fun i _ => hL1 N m (rj 1 B J) (q_within s 0 5) ((i : Nat) : Int)) (fun i _ => [(23, .rows 26 12 N (rwj (q_zp G i) s0 (fun _ _ => .nilp)))]) (fun _ _ => True) N (Z := fun z => z = some (bl true, [])) ?_ ?_ (m + 20) 0 () (by omega) (by omega) trivial
  · intro i _ mm hi _
    refine ⟨(), trivial, ?_⟩
    rw [z1_st, if_pos (by simpa using hi), chk_true (by simp <;> omega), Int.toNat_natCast, if_pos (by simpa using hi), W_nat (by omega), put_rw _ _ _ _ 1 _ (by omega)]
    rfl
  · intro _ mm _
    rw [z1_st, if_neg (by simp)]
    exact (z2_loop (m + 20) N m (by omega) hm (q_zp G N) s0 _ J B (q_within s 0 5) (N : Nat) hg hb hN0 (by omega) m 0 (m + 20) (by omega) (by omega)).1
theorem at_zero (m : Nat) (hm : m ≤ 9223372036854775807) (row J : Nat → Nat → PS) (B : Nat → Nat → Int) (s : Int) : callF prog gl DL (m + 20) O27 0 4 [.one (.view 0 12 row), .one (.view m 1 (rj 1 B J)), i64 s] [] = some (bl true, []) := by
  rw [z_pre0]
  refine (z1_zero (m + 20) (m + 19) m (rj 1 B J) (q_within s 0 5)).trans ?_
  refine loop_ex (body := zL (m + 20) pL2) (K := zK (m + 20) pL2) (σ := Unit) (fun i _ => hL2 0 m (rj 1 B J) .nils .nils (q_within s 0 5) 0 ((i : Nat) : Int)) (fun _ _ => []) (fun _ _ => True) m (Z := fun z => z = some (bl true, [])) ?_ ?_ (m + 20) 0 () (by omega) (by omega) trivial
  · intro i _ mm hi _
    refine ⟨(), trivial, ?_⟩
    have hk := within_in (B i 0) 1 10 (by omega)
    rw [z2_zero, if_pos (by simpa using hi), chk_true (by simp <;> omega), Int.toNat_natCast, W_nat (by omega), decide_eq_false (show ¬ q_within (B i 0) 1 10 ≤ (0 : Int) by omega)]
    rfl
  · intro _ mm _
    rw [z2_zero, if_neg (by simp)]
end Go.Proofs.YtgipgiejdbhpkaaDoor.Sh
