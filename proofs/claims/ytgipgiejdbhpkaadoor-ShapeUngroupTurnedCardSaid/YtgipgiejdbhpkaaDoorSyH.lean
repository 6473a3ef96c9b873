import Derived.Test.YtgipgiejdbhpkaaDoorSyV
namespace Go.Proofs.YtgipgiejdbhpkaaDoor.Sh
open Go Go.RowKit Go.Proofs.YtgipgiejdbhpkaaDoor.Ev Go.Proofs.Tryd
set_option maxRecDepth 1000000
set_option linter.unusedVariables false
/-! the law's loops -/
theorem u1_one (fl mm : Nat) (g : Nat → Nat → Int) (sx : Nat → Nat → ByteArray) (jx : Nat → Nat → PS) (t i : Int) : rounds (yU (fl + 1) pU1) (kU (fl + 1) pU1) (mm + 1) (hU1 1 t i) [(20, .rows 26 12 1 (rwj g sx jx))] = (if (decide (i < (1 : Int))) = true then (chk true (decide ((0 : Int) ≤ i) && decide (i < (1 : Int))) (if (decide (i.toNat < (1 : Nat))) = true then (if (decide (i > (0 : Int))) = true then (chk true (decide ((0 : Int) ≤ i) && decide (i < (1 : Int))) (if (decide (i.toNat < (1 : Nat))) = true then (chk true (decide ((0 : Int) ≤ i) && decide (i < (1 : Int))) (chk true (decide (i.toNat < (1 : Nat)) && true) (if (g i.toNat (2 : Nat) == (5 : Int)) = true then (chk true (decide ((0 : Int) ≤ i) && decide (i < (1 : Int))) (if (decide (i.toNat < (1 : Nat))) = true then (rounds (yU (fl + 1) pU1) (kU (fl + 1) pU1) mm ([((23 : Nat), none, i64 ((W (i + (1 : Int))))), ((22 : Nat), none, i64 ((1 : Int))), ((0 : Nat), none, PV.one (PS.os (20 : Nat))), ((4 : Nat), none, PV.one (PS.bool false)), ((1 : Nat), none, i64 (t))]) ([((20 : Nat), OB.rows (26 : Nat) (12 : Nat) (1 : Nat) (putRow (putRow (putRow (rwj g sx jx) i.toNat (1 : Nat) [PS.int IntKind.i64 (0 : Int)]) i.toNat (1 : Nat) [PS.int IntKind.i64 (1 : Int)]) i.toNat (2 : Nat) [PS.int IntKind.i64 (0 : Int)]))])) else none)) else (rounds (yU (fl + 1) pU1) (kU (fl + 1) pU1) mm ([((23 : Nat), none, i64 ((W (i + (1 : Int))))), ((22 : Nat), none, i64 ((1 : Int))), ((0 : Nat), none, PV.one (PS.os (20 : Nat))), ((4 : Nat), none, PV.one (PS.bool false)), ((1 : Nat), none, i64 (t))]) ([((20 : Nat), OB.rows (26 : Nat) (12 : Nat) (1 : Nat) (putRow (putRow (rwj g sx jx) i.toNat (1 : Nat) [PS.int IntKind.i64 (0 : Int)]) i.toNat (1 : Nat) [PS.int IntKind.i64 (1 : Int)]))]))))) else none)) else (chk true (decide ((0 : Int) ≤ i) && decide (i < (1 : Int))) (chk true (decide (i.toNat < (1 : Nat)) && true) (if (g i.toNat (2 : Nat) == (5 : Int)) = true then (chk true (decide ((0 : Int) ≤ i) && decide (i < (1 : Int))) (if (decide (i.toNat < (1 : Nat))) = true then (rounds (yU (fl + 1) pU1) (kU (fl + 1) pU1) mm ([((23 : Nat), none, i64 ((W (i + (1 : Int))))), ((22 : Nat), none, i64 ((1 : Int))), ((0 : Nat), none, PV.one (PS.os (20 : Nat))), ((4 : Nat), none, PV.one (PS.bool false)), ((1 : Nat), none, i64 (t))]) ([((20 : Nat), OB.rows (26 : Nat) (12 : Nat) (1 : Nat) (putRow (putRow (rwj g sx jx) i.toNat (1 : Nat) [PS.int IntKind.i64 (0 : Int)]) i.toNat (2 : Nat) [PS.int IntKind.i64 (0 : Int)]))])) else none)) else (rounds (yU (fl + 1) pU1) (kU (fl + 1) pU1) mm ([((23 : Nat), none, i64 ((W (i + (1 : Int))))), ((22 : Nat), none, i64 ((1 : Int))), ((0 : Nat), none, PV.one (PS.os (20 : Nat))), ((4 : Nat), none, PV.one (PS.bool false)), ((1 : Nat), none, i64 (t))]) ([((20 : Nat), OB.rows (26 : Nat) (12 : Nat) (1 : Nat) (putRow (rwj g sx jx) i.toNat (1 : Nat) [PS.int IntKind.i64 (0 : Int)]))])))))) else none)) else (if (q_dec (q_unP (1 : Nat) (putRow (rwj g sx jx) (0 : Nat) (0 : Nat) [PS.int IntKind.i64 (1 : Int), PS.int IntKind.i64 (0 : Int), PS.int IntKind.i64 (5 : Int), PS.int IntKind.i64 (g (0 : Nat) (3 : Nat)), PS.int IntKind.i64 (g (0 : Nat) (4 : Nat)), PS.int IntKind.i64 (g (0 : Nat) (5 : Nat)), PS.int IntKind.i64 (g (0 : Nat) (6 : Nat)), PS.int IntKind.i64 (q_within t (0 : Int) (3599 : Int)), PS.int IntKind.i64 (0 : Int), PS.int IntKind.i64 (0 : Int), PS.str { data := { toList := [] } }, PS.str { data := { toList := [] } }]) (1 : Int))) = true then (some ((PV.one (PS.bool true), []))) else none)) := by kernel_rfl
theorem ut_0 (fl : Nat) (row : Nat → Nat → PS) (t : Int) : callF prog gl DS (fl + 1) O33 0 3 [.one (.view 0 12 row), i64 t] [] = (some ((PV.one (PS.bool true), []))) := by kernel_rfl
theorem put12 (g : Nat → Nat → Int) (sx : Nat → Nat → ByteArray) (jx : Nat → Nat → PS) (k : Nat) (c : Nat → Int) (s1 s2 : ByteArray) : putRow (rwj g sx jx) k 0 (cel c s1 s2) = rwj (fun i j => if i = k then c j else g i j) (fun i j => if i = k then (if j = 10 then s1 else s2) else sx i j) jx := by
  funext i1 j1
  rw [putRow_eq]
  have e : (cel c s1 s2).getD (j1 - 0) .nilp = litRow 12 (cel c s1 s2) i1 j1 := rfl
  have l : (cel c s1 s2).length = 12 := rfl
  rw [e, lit_rw, l]
  unfold rwj
  by_cases h1 : i1 = k
  · by_cases h2 : j1 < 12
    · simp [h1, h2]
    · have : ¬ j1 < 10 := by omega
      simp [h1, h2, this]
  · simp [h1]
def q_lr (g : Nat → Nat → Int) (i j : Nat) : Int := if j = 1 then (if i = 0 then 0 else 1) else if j = 2 then q_kd (g i 2) else g i j
def q_l1 (m : Nat) (g : Nat → Nat → Int) : Nat → Nat → Int := fun i j => if i < m then q_lr g i j else g i j
theorem bd6 {x y : Int} (hx : -6 ≤ x ∧ x ≤ 6) (hy : -6 ≤ y ∧ y ≤ 6) : decide (max (max (max (W x) (W (0 - W x))) (W y)) (W (0 - W y)) > (6 : Int)) = false := by
  rw [W_id (n := x) (by omega) (by omega), W_id (n := y) (by omega) (by omega), W_id (n := 0 - x) (by omega) (by omega), W_id (n := 0 - y) (by omega) (by omega)]
  exact decide_eq_false (by omega)
theorem u2_loop (fl n m : Nat) (hm : m ≤ 1000) (g g2 : Nat → Nat → Int) (sx s2 : Nat → Nat → ByteArray) (jx j2 : Nat → Nat → PS) (t q : Int) (h1 : ∀ i, i < m → q_crP n (rwj g sx jx) (g2 i 0)) (h2 : ∀ i, i < m → q_crP m (rwj g2 s2 j2) (g2 i 0))
    (h3 : ∀ i, i < m → ∀ k, (-6 ≤ (q_vi n (q_nu n (rwj g sx jx)) (g2 i 0) k).1 - (q_vi m (q_nu m (rwj g2 s2 j2)) (g2 i 0) k).1 ∧ (q_vi n (q_nu n (rwj g sx jx)) (g2 i 0) k).1 - (q_vi m (q_nu m (rwj g2 s2 j2)) (g2 i 0) k).1 ≤ 6) ∧ -6 ≤ (q_vi n (q_nu n (rwj g sx jx)) (g2 i 0) k).2 - (q_vi m (q_nu m (rwj g2 s2 j2)) (g2 i 0) k).2 ∧ (q_vi n (q_nu n (rwj g sx jx)) (g2 i 0) k).2 - (q_vi m (q_nu m (rwj g2 s2 j2)) (g2 i 0) k).2 ≤ 6) :
    ∀ (r i mm : Nat), i + r = m → r < mm → rounds (yU (fl + 5) pU2) (kU (fl + 5) pU2) mm (hU2 n m (rwj g sx jx) (rwj g2 s2 j2) t q (i : Nat)) [] = some (bl true, []) := by
  intro r
  induction r with
  | zero =>
    intro i mm hi hmm
    obtain ⟨mm, rfl⟩ : ∃ k, mm = k + 1 := ⟨mm - 1, by omega⟩
    rw [u2_raw, if_neg (by simp; omega)]
  | succ r ih =>
    intro i mm hi hmm
    obtain ⟨mm, rfl⟩ : ∃ k, mm = k + 1 := ⟨mm - 1, by omega⟩
    rw [u2_raw, if_pos (by simp; omega), chk_true (by simp; omega)]
    simp only [Int.toNat_natCast, Nat.zero_add]
    have b0 := h3 i (by omega) 0
    have b1 := h3 i (by omega) 1
    have b2 := h3 i (by omega) 2
    have b3 := h3 i (by omega) 3
    rw [if_pos (q_dec_iff.2 (h1 i (by omega))), if_pos (q_dec_iff.2 (h2 i (by omega)))]
    rw [if_neg (by rw [bd6 b0.1 b0.2]; decide), if_neg (by rw [bd6 b1.1 b1.2]; decide), if_neg (by rw [bd6 b2.1 b2.2]; decide), if_neg (by rw [bd6 b3.1 b3.2]; decide), W_nat (by omega)]
    exact ih (i + 1) mm (by omega) (by omega)
/-! the law -/
theorem unP_ok {N : Nat} {g F : Nat → Nat → Int} {T : Int} (hG : Gd (N + 1) g) (hT : 0 ≤ T ∧ T ≤ 3599) (hF : IsF N g T F) {row : Nat → Nat → PS} (hr : q_isRw row) (he : q_nu (N + 1) row = F) : q_unP (N + 1) row 1 := by
  refine ⟨hr, by have := hG.n1; omega, ?_⟩
  rw [he]
  have f1 := F_fd1 hG hF (n := N + 1) (by omega) (by omega)
  refine ⟨F_chk hG hT hF, F_Cd hG hT hF, by rw [f1]; decide, by rw [f1]; exact (F_head hF).2.2.1, ?_⟩
  rw [f1]
  exact U_chk hG hT hF
/-- The first loop's invariant: rows 0 .. i - 1 are done. -/
def InvL (n : Nat) (g : Nat → Nat → Int) (i : Nat) (g' : Nat → Nat → Int) : Prop := ∀ k j, k < n → j < 10 → g' k j = q_l1 i g k j
theorem l1_up {n i : Nat} {g g' g'' : Nat → Nat → Int} (h : InvL n g i g') (hi : i < n) (h1 : ∀ k j, ¬ k = i → g'' k j = g' k j) (h2 : ∀ j, j < 10 → g' i j = g i j → g' i 2 = g i 2 → g'' i j = q_lr g i j) : InvL n g (i + 1) g'' := fun k j hk hj => by
  have hh := h k j hk hj
  unfold q_l1 at hh ⊢
  by_cases c : k = i
  · subst c
    rw [if_neg (by omega)] at hh
    rw [if_pos (by omega)]
    have e2 := h k 2 hk (by omega)
    unfold q_l1 at e2
    rw [if_neg (by omega)] at e2
    exact h2 j hj hh e2
  · rw [h1 k j c, hh]
    by_cases cc : k < i
    · rw [if_pos cc, if_pos (by omega)]
    · rw [if_neg cc, if_neg (by omega)]
theorem l1_put0 {n i : Nat} {g g' : Nat → Nat → Int} (h : InvL n g i g') (b2 : Bool) (h2 : (g' i 2 == 5) = b2) (hn : i < n) (h0 : i = 0) : InvL n g (i + 1) (bif b2 then putB (putB g' i 1 0) i 2 0 else putB g' i 1 0) := by
  refine l1_up h hn (fun k j c => ?_) (fun j hj e e2 => ?_)
  · cases b2 <;> simp [putB, c]
  · rw [e2] at h2
    by_cases c1 : j = 1
    · subst c1; cases b2 <;> simp [putB, q_lr, h0]
    · by_cases c2 : j = 2
      · subst c2
        cases b2
        · have c5 : ¬ g i 2 = 5 := by simpa using h2
          simp [putB, q_lr, e, q_kd, c5]
        · have c5 : g i 2 = 5 := by simpa using h2
          simp [putB, q_lr, q_kd, c5]
      · cases b2 <;> simp [putB, q_lr, c1, c2, e]
theorem l1_put1 {n i : Nat} {g g' : Nat → Nat → Int} (h : InvL n g i g') (b2 : Bool) (h2 : (g' i 2 == 5) = b2) (hn : i < n) (h0 : 0 < i) : InvL n g (i + 1) (bif b2 then putB (putB (putB g' i 1 0) i 1 1) i 2 0 else putB (putB g' i 1 0) i 1 1) := by
  have h0 : ¬ i = 0 := by omega
  refine l1_up h hn (fun k j c => ?_) (fun j hj e e2 => ?_)
  · cases b2 <;> simp [putB, c]
  · rw [e2] at h2
    by_cases c1 : j = 1
    · subst c1; cases b2 <;> simp [putB, q_lr, h0]
    · by_cases c2 : j = 2
      · subst c2
        cases b2
        · have c5 : ¬ g i 2 = 5 := by simpa using h2
          simp [putB, q_lr, e, q_kd, c5]
        · have c5 : g i 2 = 5 := by simpa using h2
          simp [putB, q_lr, q_kd, c5]
      · cases b2 <;> simp [putB, q_lr, c1, c2, e]
/-- What the law makes of the rows ahead of Ungroup. -/
theorem l1_F {N : Nat} {g g' : Nat → Nat → Int} {T : Int} {s1 s2 : ByteArray} {sx : Nat → Nat → ByteArray} {jx : Nat → Nat → PS} (h : InvL (N + 1) g (N + 1) g') : ∃ F S, putRow (rwj g' sx jx) 0 0 [.int .i64 1, .int .i64 0, .int .i64 5, .int .i64 (g' 0 3), .int .i64 (g' 0 4), .int .i64 (g' 0 5), .int .i64 (g' 0 6), .int .i64 T, .int .i64 0, .int .i64 0, .str s1, .str s2] = rwj F S jx ∧ IsF N g T (cutG (N + 1) F) := by
  refine ⟨_, _, put12 g' sx jx 0 (q_c10 1 0 5 (g' 0 3) (g' 0 4) (g' 0 5) (g' 0 6) T 0 0) s1 s2, fun i j hi hj => ?_⟩
  rw [cutG_in hi hj]
  have e := fun j hj (c1 : ¬ j = 1) (c2 : ¬ j = 2) => show g' 0 j = g 0 j by rw [h 0 j (by omega) hj]; unfold q_l1 q_lr; rw [if_pos (by omega), if_neg c1, if_neg c2]
  unfold q_lF
  by_cases c : i = 0
  · simp only [if_pos c]
    rw [e 3 (by omega) (by omega) (by omega), e 4 (by omega) (by omega) (by omega), e 5 (by omega) (by omega) (by omega), e 6 (by omega) (by omega) (by omega)]
  · simp only [if_neg c]
    rw [h i j hi hj]
    unfold q_l1 q_lr
    rw [if_pos hi]
    simp only [if_neg c]
    rfl
theorem ut_eq (n : Nat) (g : Nat → Nat → Int) (sx : Nat → Nat → ByteArray) (jx : Nat → Nat → PS) (t : Int) : callF prog gl DS 30 O33 0 3 [.one (.view (n + 1) 12 (rwj g sx jx)), i64 t] [] = some (bl true, []) := by
  rw [ut_pre, if_pos (q_dec_iff.2 ⟨by omega, ⟨g, sx, jx, rfl⟩⟩)]
  have hG := shG_gd (n + 1) (q_nu (n + 1) (rwj g sx jx))
  have hN0 : 0 < min (n + 1) 10 := by omega
  generalize min (n + 1) 10 = N at *
  generalize q_shG true (q_nu (n + 1) (rwj g sx jx)) = G at *
  generalize q_shS (q_tx2 (n + 1) (rwj g sx jx)) = s0
  have hT := within_in t 0 3599 (by omega)
  have hn := hG.n1
  refine loop_ex (body := yU 30 pU1) (K := kU 30 pU1) (σ := Nat → Nat → Int) (fun i _ => hU1 N t ((i : Nat) : Int)) (fun i g' => [(20, .rows 26 12 N (rwj g' s0 (fun _ _ => .nilp)))]) (fun i g' => InvL N G i g') N (Z := fun z => z = some (bl true, [])) ?_ ?_ 30 0 G (by omega) (by omega) (fun k j hk hj => by unfold q_l1; rw [if_neg (by omega)])
  · intro i g' mm hi hI
    obtain ⟨b2, h2⟩ : ∃ b, (g' i 2 == 5) = b := ⟨_, rfl⟩
    have one : N = 1 ∨ ∃ M, N = M + 2 := by
      rcases N with _ | _ | M
      · omega
      · exact .inl rfl
      · exact .inr ⟨M, rfl⟩
    by_cases h0 : 0 < i
    · refine ⟨_, l1_put1 hI b2 h2 hi h0, ?_⟩
      obtain rfl | ⟨M, rfl⟩ := one
      · omega
      · have c1 : decide ((i : Int) > 0) = true := by simp; omega
        rw [u1_st, if_pos (by simp; omega), chk_true (by simp; omega), Int.toNat_natCast, if_pos (by simpa using hi), if_pos c1, chk_true (by simp; omega), if_pos (by simpa using hi), chk_true (by simp; omega), chk_true (by simp; omega), W_nat (by omega), put_rw _ _ _ _ 1 _ (by omega), put_rw _ _ _ _ 1 _ (by omega), put_rw _ _ _ _ 2 _ (by omega), h2]
        cases b2
        · rfl
        · rw [if_pos rfl, chk_true (by simp; omega), if_pos (by simpa using hi)]; rfl
    · have h0 : i = 0 := by omega
      refine ⟨_, l1_put0 hI b2 h2 hi h0, ?_⟩
      obtain rfl | ⟨M, rfl⟩ := one
      · have c1 : ¬ decide ((i : Int) > 0) = true := by simp; omega
        rw [u1_one 29, if_pos (by simp; omega), chk_true (by simp; omega), Int.toNat_natCast, if_pos (by simpa using hi), if_neg c1, chk_true (by simp; omega), chk_true (by simp; omega), W_nat (by omega), put_rw _ _ _ _ 1 _ (by omega), put_rw _ _ _ _ 2 _ (by omega), h2]
        cases b2
        · rfl
        · rw [if_pos rfl, chk_true (by simp; omega), if_pos (by simpa using hi)]; rfl
      · have c1 : ¬ decide ((i : Int) > 0) = true := by simp; omega
        rw [u1_st, if_pos (by simp; omega), chk_true (by simp; omega), Int.toNat_natCast, if_pos (by simpa using hi), if_neg c1, chk_true (by simp; omega), chk_true (by simp; omega), W_nat (by omega), put_rw _ _ _ _ 1 _ (by omega), put_rw _ _ _ _ 2 _ (by omega), h2]
        cases b2
        · rfl
        · rw [if_pos rfl, chk_true (by simp; omega), if_pos (by simpa using hi)]; rfl
  · intro g' mm hI
    rcases N with _ | _ | M
    · omega
    · show rounds (yU 30 pU1) (kU 30 pU1) (mm + 1) (hU1 1 t ((1 : Nat) : Int)) [(20, .rows 26 12 1 (rwj g' s0 (fun _ _ => .nilp)))] = _
      rw [u1_one 29, if_neg (by decide)]
      obtain ⟨F, S, eF, hF⟩ := l1_F (T := q_within t 0 3599) (s1 := emp) (s2 := emp) (sx := s0) (jx := fun _ _ => .nilp) (N := 0) hI
      rw [eF, if_pos (q_dec_iff.2 (unP_ok (N := 0) hG hT hF ⟨F, S, _, rfl⟩ nu_rwj))]
    · obtain ⟨F, S, eF, hF⟩ := l1_F (T := q_within t 0 3599) (s1 := emp) (s2 := emp) (sx := s0) (jx := fun _ _ => .nilp) (N := M + 1) hI
      have hP := unP_ok (N := M + 1) hG hT hF (row := rwj F S (fun _ _ => .nilp)) ⟨F, S, _, rfl⟩ nu_rwj
      have f1 := F_fd1 hG hF (n := M + 2) (by omega) (by omega)
      rw [u1_st, if_neg (by simp; omega), chk_true (by simp; omega), chk_true (by simp; omega), chk_true (by simp; omega), chk_true (by simp; omega), chk_true (by simp; omega), eF, if_pos (q_dec_iff.2 hP), if_neg (by rw [W_id (by omega) (by omega)]; simp; omega), nu_rwj, f1]
      have eU : ∀ i j, i < M + 1 → j < 10 → cutG (M + 1) (q_U (cutG (M + 2) F)) i j = q_U (cutG (M + 2) F) i j := fun i j hi hj => cutG_in hi hj
      have cU : q_chk (M + 1) (cutG (M + 1) (q_U (cutG (M + 2) F))) = 0 := by rw [chk_cg eU]; exact U_chk hG hT hF
      have fU : ∀ i, i < M + 1 → q_fd (M + 1) (cutG (M + 1) (q_U (cutG (M + 2) F))) (q_U (cutG (M + 2) F) i 0) = i := fun i hi => by
        rw [U_i0 hG hF i hi]
        exact fd_flat (fun k hk => (eU k 0 hk (by omega)).trans (U_i0 hG hF k hk)) hi
      refine u2_loop 25 (M + 2) (M + 1) (by omega) F (q_U (cutG (M + 2) F)) S _ _ _ t _ (fun i hi => ?_) (fun i hi => ?_) (fun i hi k => ?_) (M + 1) 0 30 (by omega) (by omega)
      · refine ⟨⟨F, S, _, rfl⟩, by omega, ?_⟩
        rw [nu_rwj, U_i0 hG hF i hi]
        refine ⟨F_chk hG hT hF, F_Cd hG hT hF, ?_⟩
        have := fd_flat (F_i0 hG hF) (k := i + 1) (by omega)
        rw [show (i : Int) + 2 = ((i + 1 : Nat) : Int) + 1 by omega, this]
        omega
      · refine ⟨⟨_, _, _, rfl⟩, by omega, ?_⟩
        rw [nu_rwj]
        refine ⟨cU, Cd_cg (fun k j hk hj => (eU k j hk hj).symm) (U_Cd hG hT hF), ?_⟩
        rw [fU i hi]; omega
      · rw [nu_rwj, nu_rwj, U_i0 hG hF i hi]
        exact UF_near hG hT hF hi k (fun j hj => eU i j hi hj) (by have := fU i hi; rw [U_i0 hG hF i hi] at this; exact this)
end Go.Proofs.YtgipgiejdbhpkaaDoor.Sh
