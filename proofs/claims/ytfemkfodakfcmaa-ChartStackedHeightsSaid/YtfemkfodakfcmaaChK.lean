import Derived.Test.YtfemkfodakfcmaaChJ
namespace Go.Proofs.Ytfemkfodakfcmaa.Sh
open Go Go.RowKit Go.Proofs.Ytfemkfodakfcmaa.Ev Go.Proofs.Try
set_option maxRecDepth 100000
set_option linter.unusedVariables false
def q_pt (i j : Nat) (x y : Int) : Nat → Nat → PS := litRow 6 [PS.int .i64 j, .int .i64 i, .int .i64 x, .int .i64 y, .int .i64 0, .int .i64 0]
theorem bj_loopn (fl n m mm : Nat) (a b c w t : Int) (nr : Nat → Nat → PS) (V : Nat → Nat → Int) (lo hi : Int) (i : Nat) (h : q_bP 2 n m V a b c t w lo hi) (hi : i < n) : ∀ (m0 j : Nat) (row : Nat → Nat → PS), j ≤ m → m < j + m0 → BjI n m V a b t w i j row →
    ∃ row', rounds (yBj fl) (kBj fl n m mm nr (q_sr n V) a b c w t i (tNil 2 n m nr (q_sr n V) a b c t (n + 1) w n)) m0 (hBj n m nr (q_sr n V) a b c w t i (j : Int)) (tRow2 n m nr (q_sr n V) a b c t (i * m + j) row (n + 1) w n) = rounds (yBs fl) (kBs fl) mm (hBs 2 n m nr (q_sr n V) a b c w t ((i + 1 : Nat) : Int)) (tRow2 n m nr (q_sr n V) a b c t ((i + 1) * m) row' (n + 1) w n) ∧ BsI 2 n m V a b t w (i + 1) row' := by
  obtain ⟨⟨_, ⟨n1, n2⟩, ⟨m1, m2⟩, hV⟩, hs, hw, ht, h1, h2, hR⟩ := h
  refine loop_ex (σ := Nat → Nat → PS) (fun j _ => hBj n m nr (q_sr n V) a b c w t i (j : Int)) (fun j row => tRow2 n m nr (q_sr n V) a b c t (i * m + j) row (n + 1) w n) (fun j row => BjI n m V a b t w i j row) m (Z := fun z => ∃ row', z = rounds (yBs fl) (kBs fl) mm (hBs 2 n m nr (q_sr n V) a b c w t ((i + 1 : Nat) : Int)) (tRow2 n m nr (q_sr n V) a b c t ((i + 1) * m) row' (n + 1) w n) ∧ BsI 2 n m V a b t w (i + 1) row') ?_ ?_
  · intro j row m0 hj hI
    refine ⟨appRow (i * m + j) row (q_pt i j ((w * i / n + w * (i + 1 : Nat) / n) / 2) (q_y a b t (V j i))), BjI_step hI (fun f hf => by
      have : f = 0 ∨ f = 1 ∨ f = 2 ∨ f = 3 ∨ f = 4 ∨ f = 5 := by omega
      rcases this with rfl | rfl | rfl | rfl | rfl | rfl <;> rfl), ?_⟩
    have g := hR.2.2.2.1 (by decide) i hi j hj
    have e1 := edge_le hw ⟨n1, n2⟩ (show i ≤ n by omega)
    have e2 := edge_le hw ⟨n1, n2⟩ (show i + 1 ≤ n by omega)
    have e3 : W (w * i / n + w * (i + 1 : Nat) / n) = w * i / n + w * (i + 1 : Nat) / n := W_id (by omega) (by omega)
    have e4 : W ((w * i / n + w * (i + 1 : Nat) / n).tdiv 2) = (w * i / n + w * (i + 1 : Nat) / n) / 2 := by
      rw [Int.tdiv_eq_ediv_of_nonneg (by omega)]
      exact W_id (by omega) (by omega)
    have := nm_le (i := i) (by omega) n2 m2
    rw [bj_sn, if_pos (by simp <;> omega), W_nat (i := i) (by omega), chk_true (by simp <;> omega), chk_true (by simp <;> omega), chk_true (by simp <;> omega), chk_true (by simp <;> omega), chk_true (by simp <;> omega), chk_true (by simp <;> omega), Int.toNat_natCast, Int.toNat_natCast, Int.toNat_natCast, if_pos (q_dec_iff.2 ⟨.inl rfl, _, _, _, _, _, _, _, _, rfl, ⟨hs, by omega, by omega⟩⟩), if_pos (by simp <;> omega), W_nat (i := j) (by omega), e3, e4]
    rfl
  · intro row m0 hI
    refine ⟨row, ?_, BjI_end hI⟩
    rw [bj_sn, if_neg (by simp), W_nat (i := i) (by omega), Nat.succ_mul]
    rfl
theorem bj_loops (fl n m mm : Nat) (a b c w t : Int) (nr : Nat → Nat → PS) (V : Nat → Nat → Int) (l0 : Nat) (row0 : Nat → Nat → PS) (lo hi : Int) (i : Nat) (h : q_bP 2 n m V a b c t w lo hi) (hi : i < n) : ∀ (m0 j : Nat) (row : Nat → Nat → PS), j ≤ m → m < j + m0 → BjI n m V a b t w i j row →
    ∃ row', rounds (yBj fl) (kBj fl n m mm nr (q_sr n V) a b c w t i (tRow2 n m nr (q_sr n V) a b c t l0 row0 (n + 1) w n)) m0 (hBj n m nr (q_sr n V) a b c w t i (j : Int)) (tRow2 n m nr (q_sr n V) a b c t (i * m + j) row (n + 1) w n) = rounds (yBs fl) (kBs fl) mm (hBs 2 n m nr (q_sr n V) a b c w t ((i + 1 : Nat) : Int)) (tRow2 n m nr (q_sr n V) a b c t ((i + 1) * m) row' (n + 1) w n) ∧ BsI 2 n m V a b t w (i + 1) row' := by
  obtain ⟨⟨_, ⟨n1, n2⟩, ⟨m1, m2⟩, hV⟩, hs, hw, ht, h1, h2, hR⟩ := h
  refine loop_ex (σ := Nat → Nat → PS) (fun j _ => hBj n m nr (q_sr n V) a b c w t i (j : Int)) (fun j row => tRow2 n m nr (q_sr n V) a b c t (i * m + j) row (n + 1) w n) (fun j row => BjI n m V a b t w i j row) m (Z := fun z => ∃ row', z = rounds (yBs fl) (kBs fl) mm (hBs 2 n m nr (q_sr n V) a b c w t ((i + 1 : Nat) : Int)) (tRow2 n m nr (q_sr n V) a b c t ((i + 1) * m) row' (n + 1) w n) ∧ BsI 2 n m V a b t w (i + 1) row') ?_ ?_
  · intro j row m0 hj hI
    refine ⟨appRow (i * m + j) row (q_pt i j ((w * i / n + w * (i + 1 : Nat) / n) / 2) (q_y a b t (V j i))), BjI_step hI (fun f hf => by
      have : f = 0 ∨ f = 1 ∨ f = 2 ∨ f = 3 ∨ f = 4 ∨ f = 5 := by omega
      rcases this with rfl | rfl | rfl | rfl | rfl | rfl <;> rfl), ?_⟩
    have g := hR.2.2.2.1 (by decide) i hi j hj
    have e1 := edge_le hw ⟨n1, n2⟩ (show i ≤ n by omega)
    have e2 := edge_le hw ⟨n1, n2⟩ (show i + 1 ≤ n by omega)
    have e3 : W (w * i / n + w * (i + 1 : Nat) / n) = w * i / n + w * (i + 1 : Nat) / n := W_id (by omega) (by omega)
    have e4 : W ((w * i / n + w * (i + 1 : Nat) / n).tdiv 2) = (w * i / n + w * (i + 1 : Nat) / n) / 2 := by
      rw [Int.tdiv_eq_ediv_of_nonneg (by omega)]
      exact W_id (by omega) (by omega)
    have := nm_le (i := i) (by omega) n2 m2
    rw [bj_ss, if_pos (by simp <;> omega), W_nat (i := i) (by omega), chk_true (by simp <;> omega), chk_true (by simp <;> omega), chk_true (by simp <;> omega), chk_true (by simp <;> omega), chk_true (by simp <;> omega), chk_true (by simp <;> omega), Int.toNat_natCast, Int.toNat_natCast, Int.toNat_natCast, if_pos (q_dec_iff.2 ⟨.inl rfl, _, _, _, _, _, _, _, _, rfl, ⟨hs, by omega, by omega⟩⟩), if_pos (by simp <;> omega), W_nat (i := j) (by omega), e3, e4]
    rfl
  · intro row m0 hI
    refine ⟨row, ?_, BjI_end hI⟩
    rw [bj_ss, if_neg (by simp), W_nat (i := i) (by omega), Nat.succ_mul]
    rfl
theorem bs_ex2 (n m : Nat) (a b c w t : Int) (nr : Nat → Nat → PS) (V : Nat → Nat → Int) (lo hi : Int) (h : q_bP 2 n m V a b c t w lo hi) :
    ∃ row', rounds (yBs 300) (kBs 300) 300 (hBs 2 n m nr (q_sr n V) a b c w t (0 : Nat)) (tNil 2 n m nr (q_sr n V) a b c t (n + 1) w n) = some (.tup [.one (.os 0), i64 0], [(0, .rows 50 6 (n * m) row')]) ∧ BsI 2 n m V a b t w n row' := by
  have h' := h
  obtain ⟨⟨_, ⟨n1, n2⟩, ⟨m1, m2⟩, hV⟩, hs, hw, ht, h1, h2, hR⟩ := h
  have go := loop_ex (body := yBs 300) (K := kBs 300) (σ := Nat → Nat → PS) (fun i _ => hBs 2 n m nr (q_sr n V) a b c w t (i : Int)) (fun i row => tRow2 n m nr (q_sr n V) a b c t (i * m) row (n + 1) w n) (fun i row => BsI 2 n m V a b t w i row) n (Z := fun z => ∃ row', z = some (PV.tup [.one (.os 0), i64 0], [(0, OB.rows 50 6 (n * m) row')]) ∧ BsI 2 n m V a b t w n row') (by
    intro i row mm hi hI
    obtain ⟨row', q1, q2⟩ := bj_loops 300 n m mm a b c w t nr V (i * m) row lo _ i h' hi 300 0 row (by omega) (by omega) ⟨hI, fun j' hj => absurd hj (by omega)⟩
    refine ⟨row', q2, ?_⟩
    rw [bs_s2, if_pos (by simp <;> omega)]
    exact q1) (by
    intro row mm hI
    refine ⟨row, ?_, hI⟩
    rw [bs_s2, if_neg (by simp)])
  have first : ∃ row', rounds (yBs 300) (kBs 300) 300 (hBs 2 n m nr (q_sr n V) a b c w t (0 : Nat)) (tNil 2 n m nr (q_sr n V) a b c t (n + 1) w n) = rounds (yBs 300) (kBs 300) 299 (hBs 2 n m nr (q_sr n V) a b c w t ((0 + 1 : Nat) : Int)) (tRow2 n m nr (q_sr n V) a b c t ((0 + 1) * m) row' (n + 1) w n) ∧ BsI 2 n m V a b t w (0 + 1) row' := by
    have g := hR.2.2.2.1 (by decide) 0 (by omega) 0 (by omega)
    have e1 := edge_le hw ⟨n1, n2⟩ (show 0 ≤ n by omega)
    have e2 := edge_le hw ⟨n1, n2⟩ (show 0 + 1 ≤ n by omega)
    have e3 : W (w * (0 : Nat) / n + w * (0 + 1 : Nat) / n) = w * (0 : Nat) / n + w * (0 + 1 : Nat) / n := W_id (by omega) (by omega)
    have e4 : W ((w * (0 : Nat) / n + w * (0 + 1 : Nat) / n).tdiv 2) = (w * (0 : Nat) / n + w * (0 + 1 : Nat) / n) / 2 := by
      rw [Int.tdiv_eq_ediv_of_nonneg (by omega)]
      exact W_id (by omega) (by omega)
    obtain ⟨row', q1, q2⟩ := bj_loopn 300 n m 299 a b c w t nr V lo _ 0 h' (by omega) 299 1 (appRow (0 * m + 0) (fun _ _ => .nilp) (q_pt 0 0 ((w * (0 : Nat) / n + w * (0 + 1 : Nat) / n) / 2) (q_y a b t (V 0 0)))) (by omega) (by omega) (BjI_step (j := 0) ⟨fun i' hi => absurd hi (by omega), fun j' hj => absurd hj (by omega)⟩ (fun f hf => by
      have : f = 0 ∨ f = 1 ∨ f = 2 ∨ f = 3 ∨ f = 4 ∨ f = 5 := by omega
      rcases this with rfl | rfl | rfl | rfl | rfl | rfl <;> rfl))
    refine ⟨row', ?_, q2⟩
    refine (bs_n2 300 299 n m (n + 1) (0 : Nat) w a b c t w n nr V).trans ?_
    rw [if_pos (by simp <;> omega)]
    refine (bj_n 300 299 299 n m (n + 1) (0 : Nat) (0 : Nat) w a b c t w n nr V).trans ?_
    rw [if_pos (by simp <;> omega), W_nat (i := 0) (by omega), chk_true (by simp <;> omega), chk_true (by simp <;> omega), chk_true (by simp <;> omega), chk_true (by simp <;> omega), chk_true (by simp <;> omega), chk_true (by simp <;> omega), Int.toNat_natCast, Int.toNat_natCast, if_pos (q_dec_iff.2 ⟨.inr rfl, _, _, _, _, _, _, _, _, rfl, ⟨hs, by omega, by omega⟩⟩), e3, e4]
    refine Eq.trans ?_ q1
    rw [show 0 * m + 1 = 1 by omega, show 0 * m + 0 = 0 by omega]
    rfl
  obtain ⟨row', q1, q2⟩ := first
  rw [q1]
  exact go 299 1 row' (by omega) (by omega) q2
theorem bs_ex (n m : Nat) (k a b c w t : Int) (nr : Nat → Nat → PS) (V : Nat → Nat → Int) (h : q_bP k n m V a b c t w (q_lo n m k nr (q_sr n V)) (q_hi n m k nr (q_sr n V))) :
    ∃ row', callF prog gl DY 300 O13 0 20 [.agg [.int .i64 k, .view n 1 nr, .view m 1 (q_sr n V)], .agg [.int .i64 a, .int .i64 b, .int .i64 c], i64 w, i64 t] [] = some (.tup [.one (.os 0), i64 0], [(0, .rows 50 6 (n * m) row')]) ∧ BsI k n m V a b t w n row' := by
  have h' := h
  obtain ⟨hok, hs, hw, ht, h1, h2, hR⟩ := h
  have hok' := hok
  obtain ⟨⟨k0, k2⟩, ⟨n1, n2⟩, ⟨m1, m2⟩, hV⟩ := hok
  have hn : ((n : Int) + 1).toNat = n + 1 := by omega
  rw [bs_pre, V_sr, if_pos (q_dec_iff.2 ⟨⟨V, rfl⟩, hok'⟩), if_pos (q_dec_iff.2 hs), if_neg (by simp <;> omega), if_neg (by simp <;> omega), if_pos (q_dec_iff.2 ⟨by omega, by omega⟩), hn]
  have : k = 0 ∨ k = 1 ∨ k = 2 := by omega
  rcases this with rfl | rfl | rfl
  · exact bs_ex0 n m a b c w t nr V _ _ h'
  · exact bs_ex1 n m a b c w t nr V _ _ h'
  · exact bs_ex2 n m a b c w t nr V _ _ h'
def q_bi (B : Nat → Nat → Int) : Nat → Nat → PS := fun p f => .int .i64 (B p f)
/-- A number of a bar. -/
def q_BB (k : Int) (n m : Nat) (V : Nat → Nat → Int) (a b t w : Int) (p f : Nat) : Int := q_ci (q_B k n m V a b t w (p / m) (p % m) f)
theorem B_int (k : Int) (n m : Nat) (V : Nat → Nat → Int) (a b t w : Int) (i j f : Nat) (hf : f < 6) : q_B k n m V a b t w i j f = .int .i64 (q_ci (q_B k n m V a b t w i j f)) := by
  have : f = 0 ∨ f = 1 ∨ f = 2 ∨ f = 3 ∨ f = 4 ∨ f = 5 := by omega
  unfold q_B q_bsd q_sst q_b1
  split
  · rcases this with rfl | rfl | rfl | rfl | rfl | rfl <;> rfl
  · split
    · rcases this with rfl | rfl | rfl | rfl | rfl | rfl <;> rfl
    · rcases this with rfl | rfl | rfl | rfl | rfl | rfl <;> rfl
noncomputable def aBs : Nat → List PV → Heap → Option (Bool × PV × Heap)
  | 0, [.agg [.int .i64 k, .view n 1 nr, .view m 1 sr], .agg [.int .i64 a, .int .i64 b, .int .i64 c], .one (.int .i64 w), .one (.int .i64 t)], [] => some (q_dec (q_isS n sr ∧ q_bP k n m (q_V sr) a b c t w (q_lo n m k nr sr) (q_hi n m k nr sr)), .tup [.one (.os 0), i64 0], [(0, .rows 50 6 (n * m) (q_bi (q_BB k n m (q_V sr) a b t w)))])
  | _, _, _ => none
noncomputable def O14 : Orac := addM 20 aBs O13
theorem sO14 : Sound prog gl O14 := add_ag (D := DY) sO13 sO13 mo (fun nb vs H v H' h => by
  unfold aBs at h
  split at h
  · rename_i k n nr m sr a b c w t
    obtain ⟨h1, h2, h3⟩ : q_dec (q_isS n sr ∧ q_bP k n m (q_V sr) a b c t w (q_lo n m k nr sr) (q_hi n m k nr sr)) = true ∧ .tup [.one (.os 0), i64 0] = v ∧ [(0, OB.rows 50 6 (n * m) (q_bi (q_BB k n m (q_V sr) a b t w)))] = H' := by simpa using h
    subst h2 h3
    obtain ⟨g1, g2⟩ := q_dec_iff.1 h1
    have g3 := g2
    rw [isS_V g1] at g3
    obtain ⟨row', e1, e2⟩ := bs_ex n m k a b c w t nr (q_V sr) g3
    rw [← isS_V g1] at e1
    refine ⟨300, _, _, e1, agV_refl _, .inr ⟨0, _, 6, n * m, row', _, _, rfl, rfl, fun p f hp hf => .of_eq ?_, fun p hp => (nomatch hp)⟩⟩
    have hm : 0 < m := g2.1.2.2.1.1
    have e3 := e2 (p / m) ((Nat.div_lt_iff_lt_mul hm).2 hp) (p % m) (Nat.mod_lt _ hm) f hf
    rw [Nat.mul_comm (p / m), Nat.div_add_mod] at e3
    exact e3.trans (B_int k n m (q_V sr) a b t w _ _ f hf)
  · cases h)
end Go.Proofs.Ytfemkfodakfcmaa.Sh
