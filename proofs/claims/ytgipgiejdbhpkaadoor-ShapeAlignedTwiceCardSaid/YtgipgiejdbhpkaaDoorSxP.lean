import Derived.Test.YtgipgiejdbhpkaaDoorSxN
namespace Go.Proofs.YtgipgiejdbhpkaaDoor.Sh
open Go Go.RowKit Go.Proofs.YtgipgiejdbhpkaaDoor.Ev Go.Proofs.Tryd
set_option maxRecDepth 1000000
set_option linter.unusedVariables false
/-! what Align computes -/
theorem c10_el (g : Nat → Nat → Int) (k : Nat) (a : Int) : q_el (q_c10 (g k 0) (g k 1) (g k 2) (g k 3) (g k 4) (g k 5) (g k 6) (g k 7) (g k 8) (g k 9)) a = q_el (g k) a := by
  unfold q_el
  rw [c10_cx (g k), c10_cy (g k)]
theorem c10_eh (g : Nat → Nat → Int) (k : Nat) (a : Int) : q_eh (q_c10 (g k 0) (g k 1) (g k 2) (g k 3) (g k 4) (g k 5) (g k 6) (g k 7) (g k 8) (g k 9)) a = q_eh (g k) a := by
  unfold q_eh
  rw [c10_cx (g k), c10_cy (g k)]
theorem c10_P (g : Nat → Nat → Int) (k : Nat) : q_shP (q_c10 (g k 0) (g k 1) (g k 2) (g k 3) (g k 4) (g k 5) (g k 6) (g k 7) (g k 8) (g k 9)) = q_shP (g k) := rfl
theorem sn0 : q_sn 0 = 0 := by kernel_rfl
theorem sn900 : q_sn 900 = 65536 := by kernel_rfl
theorem tt0 (x y cx cy : Int) : q_tx x y cx cy 0 = x ∧ q_ty x y cx cy 0 = y := by
  unfold q_tx q_ty q_round
  rw [show (0 : Int) + 900 = 900 from rfl, sn0, sn900]
  omega
theorem el_0 {c : Nat → Int} (h : c 7 = 0) (h5 : 0 ≤ c 5) (h6 : 0 ≤ c 6) (a : Int) : q_el c a = (if a = 0 then c 3 else c 4) ∧ q_eh c a = (if a = 0 then c 3 + c 5 else c 4 + c 6) := by
  have x : ∀ k, q_cx c k = match k with | 0 => c 3 | 1 => c 3 + c 5 | 2 => c 3 + c 5 | _ => c 3 := fun k => by
    rcases k with _ | _ | _ | k <;> simp only [q_cx, h] <;> exact (tt0 _ _ _ _).1
  have y : ∀ k, q_cy c k = match k with | 0 => c 4 | 1 => c 4 | 2 => c 4 + c 6 | _ => c 4 + c 6 := fun k => by
    rcases k with _ | _ | _ | k <;> simp only [q_cy, h] <;> exact (tt0 _ _ _ _).2
  unfold q_el q_eh q_lo q_hi
  rw [x 0, x 1, x 2, x 3, y 0, y 1, y 2, y 3]
  simp only
  split <;> omega
/-! the numbers that are sorted stay apart -/
def Inj (n : Nat) (B : Nat → Nat → Int) : Prop := ∀ i j, i < n → j < n → B i 0 = B j 0 → i = j
theorem swap_at' {B : Nat → Nat → Int} {a b i : Nat} : swapB B a b i 0 = B (if i = b then a else if i = a then b else i) 0 := by
  rw [swap_at]
  split
  · rfl
  · split <;> rfl
theorem swap_inj {n : Nat} {B : Nat → Nat → Int} {a b : Nat} (ha : a < n) (hb : b < n) (h : Inj n B) : Inj n (swapB B a b) := by
  intro i j hi hj e
  rw [swap_at', swap_at'] at e
  have := h _ _ (by split <;> (try split) <;> assumption) (by split <;> (try split) <;> assumption) e
  split at this <;> split at this <;> (try split at this) <;> (try split at this) <;> omega
theorem in_inj {n : Nat} : ∀ (j : Nat) (B : Nat → Nat → Int), j < n → Inj n B → Inj n (q_in j B) := by
  intro j
  induction j with
  | zero => intro B _ h; exact h
  | succ j ih =>
    intro B hj h
    unfold q_in
    split
    · exact ih _ (by omega) (swap_inj hj (by omega) h)
    · exact h
theorem so_inj {n : Nat} {B : Nat → Nat → Int} (h : Inj n B) : ∀ i, i ≤ n → Inj n (q_so B i) := by
  intro i
  induction i with
  | zero => intro _; exact h
  | succ i ih => intro hi; exact in_inj i _ (by omega) (ih (by omega))
/-! its parts -/
def q_ll (g : Nat → Nat → Int) (a : Int) (C : Nat → Nat → Int) (k : Nat) : Int := q_el (g (C k 0).toNat) a
def q_hh (g : Nat → Nat → Int) (a : Int) (C : Nat → Nat → Int) (k : Nat) : Int := q_eh (g (C k 0).toNat) a
/-- The least beginning, the greatest end of the first shapes. -/
def q_lw (g : Nat → Nat → Int) (a : Int) (C : Nat → Nat → Int) : Nat → Int
  | 0 => q_ll g a C 0
  | i + 1 => min (q_lw g a C i) (q_ll g a C i)
def q_hw (g : Nat → Nat → Int) (a : Int) (C : Nat → Nat → Int) : Nat → Int
  | 0 => q_hh g a C 0
  | i + 1 => max (q_hw g a C i) (q_hh g a C i)
/-- How far a shape is moved. -/
def q_by (s lo hi l h : Int) : Int := if s.tmod 3 = 0 then lo - l else if s.tmod 3 = 1 then q_round (lo + hi - l - h) 2 else hi - h
def q_mv (g : Nat → Nat → Int) (s a lo hi : Int) (C : Nat → Nat → Int) : Nat → Nat → Nat → Int
  | 0 => g
  | k + 1 => putB (q_mv g s a lo hi C k) (C k 0).toNat (if a = 0 then 3 else 4) (q_mv g s a lo hi C k (C k 0).toNat (if a = 0 then 3 else 4) + q_by s lo hi (q_ll g a C k) (q_hh g a C k))
theorem mv_far {g : Nat → Nat → Int} {s a lo hi : Int} {C : Nat → Nat → Int} {i j : Nat} : ∀ k, (j = (if a = 0 then 3 else 4) → ∀ q, q < k → (C q 0).toNat ≠ i) → q_mv g s a lo hi C k i j = g i j := by
  intro k
  induction k with
  | zero => intro _; rfl
  | succ k ih =>
    intro h
    simp only [q_mv]
    unfold putB
    rw [if_neg (fun e => h e.2 k (by omega) e.1.symm)]
    exact ih (fun e q hq => h e q (by omega))
theorem mv_at {m : Nat} {g : Nat → Nat → Int} {s a lo hi : Int} {C : Nat → Nat → Int} (hI : ∀ p q, p < m → q < m → (C p 0).toNat = (C q 0).toNat → p = q) {p : Nat} : ∀ k, k ≤ m → p < k → q_mv g s a lo hi C k (C p 0).toNat (if a = 0 then 3 else 4) = g (C p 0).toNat (if a = 0 then 3 else 4) + q_by s lo hi (q_ll g a C p) (q_hh g a C p) := by
  intro k
  induction k with
  | zero => intro _ h; omega
  | succ k ih =>
    intro hk hp
    simp only [q_mv]
    unfold putB
    by_cases e : p = k
    · subst e
      rw [if_pos ⟨rfl, rfl⟩, mv_far p (fun _ q hq e => by have := hI q p (by omega) (by omega) e; omega)]
    · rw [if_neg (fun h => e (hI p k (by omega) (by omega) h.1))]
      exact ih (by omega) (by omega)
theorem lw_le {g : Nat → Nat → Int} {a : Int} {C : Nat → Nat → Int} : ∀ m k, k < m → q_lw g a C m ≤ q_ll g a C k := by
  intro m
  induction m with
  | zero => intro k h; omega
  | succ m ih =>
    intro k h
    simp only [q_lw]
    by_cases e : k = m
    · subst e; omega
    · have := ih k (by omega); omega
theorem lw_is {g : Nat → Nat → Int} {a : Int} {C : Nat → Nat → Int} : ∀ m, 0 < m → ∃ k, k < m ∧ q_lw g a C m = q_ll g a C k := by
  intro m
  induction m with
  | zero => intro h; omega
  | succ m ih =>
    intro _
    simp only [q_lw]
    by_cases e : m = 0
    · subst e; exact ⟨0, by omega, by simp [q_lw]⟩
    · obtain ⟨k, hk, h⟩ := ih (by omega)
      rcases Int.le_total (q_lw g a C m) (q_ll g a C m) with c | c
      · exact ⟨k, by omega, by rw [Int.min_eq_left c]; exact h⟩
      · exact ⟨m, by omega, by rw [Int.min_eq_right c]⟩
theorem hw_ge {g : Nat → Nat → Int} {a : Int} {C : Nat → Nat → Int} : ∀ m k, k < m → q_hh g a C k ≤ q_hw g a C m := by
  intro m
  induction m with
  | zero => intro k h; omega
  | succ m ih =>
    intro k h
    simp only [q_hw]
    by_cases e : k = m
    · subst e; omega
    · have := ih k (by omega); omega
theorem hw_is {g : Nat → Nat → Int} {a : Int} {C : Nat → Nat → Int} : ∀ m, 0 < m → ∃ k, k < m ∧ q_hw g a C m = q_hh g a C k := by
  intro m
  induction m with
  | zero => intro h; omega
  | succ m ih =>
    intro _
    simp only [q_hw]
    by_cases e : m = 0
    · subst e; exact ⟨0, by omega, by simp [q_hw]⟩
    · obtain ⟨k, hk, h⟩ := ih (by omega)
      rcases Int.le_total (q_hw g a C m) (q_hh g a C m) with c | c
      · exact ⟨m, by omega, by rw [Int.max_eq_right c]⟩
      · exact ⟨k, by omega, by rw [Int.max_eq_left c]; exact h⟩
/-- Shapes that are not turned, of no group, numbered. -/
def q_gd (n : Nat) (g : Nat → Nat → Int) : Prop := n ≤ 10 ∧ ∀ i, i < n → g i 0 = i + 1 ∧ g i 1 = 0 ∧ (0 ≤ g i 2 ∧ g i 2 ≤ 7) ∧ (-20000 ≤ g i 3 ∧ g i 3 ≤ 20000) ∧ (-20000 ≤ g i 4 ∧ g i 4 ≤ 20000) ∧ (0 ≤ g i 5 ∧ g i 5 ≤ 1500) ∧ (0 ≤ g i 6 ∧ g i 6 ≤ 1500) ∧ g i 7 = 0 ∧ (0 ≤ g i 8 ∧ g i 8 ≤ 11) ∧ (0 ≤ g i 9 ∧ g i 9 ≤ 11) ∧ (g i 2 ≠ 6 → g i 8 = 0 ∧ g i 9 = 0)
/-- The same, wherever they are. -/
def q_gd2 (n : Nat) (g : Nat → Nat → Int) : Prop := n ≤ 10 ∧ ∀ i, i < n → g i 0 = i + 1 ∧ g i 1 = 0 ∧ (0 ≤ g i 2 ∧ g i 2 ≤ 7) ∧ (-1000000 ≤ g i 3 ∧ g i 3 ≤ 1000000) ∧ (-1000000 ≤ g i 4 ∧ g i 4 ≤ 1000000) ∧ (0 ≤ g i 5 ∧ g i 5 ≤ 1500) ∧ (0 ≤ g i 6 ∧ g i 6 ≤ 1500) ∧ g i 7 = 0 ∧ (0 ≤ g i 8 ∧ g i 8 ≤ 11) ∧ (0 ≤ g i 9 ∧ g i 9 ≤ 11) ∧ (g i 2 ≠ 6 → g i 8 = 0 ∧ g i 9 = 0)
theorem gd_2 {n : Nat} {g : Nat → Nat → Int} (h : q_gd n g) : q_gd2 n g := ⟨h.1, fun i hi => by
  obtain ⟨a0, a1, a2, a3, a4, a5, a6, a7, a8, a9, a10⟩ := h.2 i hi
  exact ⟨a0, a1, a2, by omega, by omega, a5, a6, a7, a8, a9, a10⟩⟩
theorem gd_chk {n : Nat} {g : Nat → Nat → Int} (h : q_gd2 n g) : q_chk n g = 0 := by
  refine chk_ok_of (by have := h.1; omega) (fun i hi => ?_)
  have hn := h.1
  obtain ⟨a0, a1, a2, a3, a4, a5, a6, a7, a8, a9, a10⟩ := h.2 i hi
  have e1 : q_c1 g i = 0 := c1_zero.2 ⟨a2, ⟨by omega, by omega, by omega, by omega⟩, ⟨by omega, by omega, by omega, by omega, by omega⟩, a10⟩
  have e2 : ¬ q_twi g (g i 0) i 0 = true := fun e => by
    obtain ⟨k, _, h2, h3⟩ := (twi_iff i 0).1 e
    have := (h.2 k (by omega)).1
    omega
  unfold q_ce
  rw [if_neg (by rw [e1]; simp), if_neg e2, a1]
  rfl
theorem gd_fd {n : Nat} {g : Nat → Nat → Int} (h : q_gd2 n g) {x : Int} (hx : 1 ≤ x ∧ x ≤ n) : q_fd n g x = x - 1 := by
  have := fd_at (n := n) (g := g) (x := x) (k := (x - 1).toNat) (by omega) (by rw [(h.2 _ (by omega)).1]; omega) (fun k' hk => by rw [(h.2 k' (by omega)).1]; omega)
  omega
/-! Align's walk -/
theorem gd_P {n : Nat} {g : Nat → Nat → Int} (h : q_gd n g) {i : Nat} (hi : i < n) : q_shP (g i) := by
  obtain ⟨a0, a1, a2, a3, a4, a5, a6, a7, _⟩ := h.2 i hi
  exact ⟨by omega, by omega, by omega, by omega, by omega⟩
theorem gd_el {n : Nat} {g : Nat → Nat → Int} (h : q_gd n g) {i : Nat} (hi : i < n) (a : Int) : (-20000 ≤ q_el (g i) a ∧ q_el (g i) a ≤ 20000) ∧ q_el (g i) a ≤ q_eh (g i) a ∧ q_eh (g i) a ≤ q_el (g i) a + 1500 := by
  obtain ⟨a0, a1, a2, a3, a4, a5, a6, a7, _⟩ := h.2 i hi
  obtain ⟨e1, e2⟩ := el_0 a7 a5.1 a6.1 a
  rw [e1, e2]
  split <;> omega
def CIn (n m : Nat) (C : Nat → Nat → Int) : Prop := ∀ k, k < m → 0 ≤ C k 0 ∧ C k 0 < n
theorem lw_rng {n m : Nat} {g : Nat → Nat → Int} {C : Nat → Nat → Int} (h : q_gd n g) (hC : CIn n m C) (a : Int) (hm : 0 < m) : ∀ i, i ≤ m → (-20000 ≤ q_lw g a C i ∧ q_lw g a C i ≤ 20000) ∧ -20000 ≤ q_hw g a C i ∧ q_hw g a C i ≤ 21500 := by
  have one : ∀ k, k < m → (-20000 ≤ q_ll g a C k ∧ q_ll g a C k ≤ 20000) ∧ -20000 ≤ q_hh g a C k ∧ q_hh g a C k ≤ 21500 := fun k hk => by
    have := gd_el h (i := (C k 0).toNat) (by have := hC k hk; omega) a
    unfold q_ll q_hh
    omega
  intro i
  induction i with
  | zero => intro _; exact one 0 hm
  | succ i ih =>
    intro hi
    have h1 := ih (by omega)
    have h2 := one i (by omega)
    simp only [q_lw, q_hw]
    omega
theorem ag1_loop (fl n m : Nat) (g : Nat → Nat → Int) (sx : Nat → Nat → ByteArray) (jx r2 : Nat → Nat → PS) (C : Nat → Nat → Int) (s a : Int) (hg : q_gd n g) (hC : CIn n m C) (hm : m ≤ 12) (ha : W (s.tdiv 3) = a) (Z : Option (PV × Heap)) (hZ : ∀ mm, rounds (yAg fl pAg) (kAg fl pAg) (mm + 1) (hAg n m (rwj g sx jx) r2 s (q_lw g a C m) (q_hw g a C m) (m : Nat)) [(26, .rows 3 1 m (q_row 1 C))] = Z) :
    rounds (yAg fl pAg) (kAg fl pAg) 14 (hAg n m (rwj g sx jx) r2 s (q_lw g a C 0) (q_hw g a C 0) (0 : Nat)) [(26, .rows 3 1 m (q_row 1 C))] = Z := by
  refine loop_ex (body := yAg fl pAg) (K := kAg fl pAg) (σ := Unit) (fun i _ => hAg n m (rwj g sx jx) r2 s (q_lw g a C i) (q_hw g a C i) ((i : Nat) : Int)) (fun _ _ => [(26, .rows 3 1 m (q_row 1 C))]) (fun _ _ => True) m (Z := fun x => x = Z) ?_ ?_ 14 0 () (by omega) (by omega) trivial
  · intro i _ mm hi _
    refine ⟨(), trivial, ?_⟩
    obtain ⟨c1, c2⟩ := hC i hi
    rw [ag_st]
    simp only [Int.toNat_natCast, c10_el, c10_eh, c10_P, ha]
    rw [if_pos (by simpa using hi), chk_true (by simp <;> omega), chk_true (by simp <;> omega), chk_true (by simp <;> omega), if_pos (q_dec_iff.2 (gd_P hg (by omega))), W_nat (by omega), bmin, bmax]
    simp only [q_lw, q_hw]
    rfl
  · intro _ mm _
    exact hZ mm
theorem ag2_step (fl mm n m k : Nat) (g : Nat → Nat → Int) (sx : Nat → Nat → ByteArray) (jx r2 : Nat → Nat → PS) (C : Nat → Nat → Int) (s a lo hi i : Int) (hg : q_gd n g) (hC : CIn n m C) (hI : ∀ p q, p < m → q < m → (C p 0).toNat = (C q 0).toNat → p = q) (hm : m ≤ 12) (hk : k < m) (ha : W (s.tdiv 3) = a) (hlo : -20000 ≤ lo ∧ lo ≤ 20000) (hhi : -20000 ≤ hi ∧ hi ≤ 21500) :
    rounds (yAg fl pAg2) (kAg fl pAg2) (mm + 1) (hAg2 n m (rwj g sx jx) r2 s lo hi i (k : Nat)) [(74, .rows 26 12 n (rwj (q_mv g s a lo hi C k) sx jx)), (26, .rows 3 1 m (q_row 1 C))] = rounds (yAg fl pAg2) (kAg fl pAg2) mm (hAg2 n m (rwj g sx jx) r2 s lo hi i ((k + 1 : Nat) : Int)) [(74, .rows 26 12 n (rwj (q_mv g s a lo hi C (k + 1)) sx jx)), (26, .rows 3 1 m (q_row 1 C))] := by
  obtain ⟨c1, c2⟩ := hC k hk
  have hl := gd_el hg (i := (C k 0).toNat) (by omega) a
  obtain ⟨b1, b2⟩ := hl
  have far : ∀ j, q_mv g s a lo hi C k (C k 0).toNat j = g (C k 0).toNat j := fun j => mv_far k (fun _ q hq e => by have := hI q k (by omega) hk e; omega)
  have gb := hg.2 (C k 0).toNat (by omega)
  have g3 : -20000 ≤ g (C k 0).toNat 3 ∧ g (C k 0).toNat 3 ≤ 20000 := gb.2.2.2.1
  have g4 : -20000 ≤ g (C k 0).toNat 4 ∧ g (C k 0).toNat 4 ≤ 20000 := gb.2.2.2.2.1
  rw [ag2_st]
  simp only [Int.toNat_natCast, c10_el, c10_eh, c10_P, ha]
  rw [if_pos (by simpa using hk), chk_true (by simp <;> omega), chk_true (by simp <;> omega), chk_true (by simp <;> omega), if_pos (q_dec_iff.2 (gd_P hg (by omega))), W_nat (by omega)]
  have hrw : q_dec (q_isRw (rwj (q_mv g s a lo hi C k) sx jx) ∧ (C k 0).toNat < n) = true := q_dec_iff.2 ⟨⟨_, sx, jx, rfl⟩, by omega⟩
  have hcc : (decide ((0 : Int) ≤ C k 0) && decide (C k 0 < (n : Int))) = true := by simp <;> omega
  have key : ∀ by_ : Int, q_by s lo hi (q_ll g a C k) (q_hh g a C k) = by_ → -100000 ≤ by_ ∧ by_ ≤ 100000 → (bif a == 0 then putRow (rwj (q_mv g s a lo hi C k) sx jx) (C k 0).toNat 3 [PS.int .i64 (W (q_gi (PS.int .i64 (q_mv g s a lo hi C k (C k 0).toNat 3)) + by_))] else putRow (rwj (q_mv g s a lo hi C k) sx jx) (C k 0).toNat 4 [PS.int .i64 (W (q_gi (PS.int .i64 (q_mv g s a lo hi C k (C k 0).toNat 4)) + by_))]) = rwj (q_mv g s a lo hi C (k + 1)) sx jx := fun by_ e hb => by
    have v3 : q_gi (PS.int .i64 (q_mv g s a lo hi C k (C k 0).toNat 3)) = q_mv g s a lo hi C k (C k 0).toNat 3 := rfl
    have v4 : q_gi (PS.int .i64 (q_mv g s a lo hi C k (C k 0).toNat 4)) = q_mv g s a lo hi C k (C k 0).toNat 4 := rfl
    rw [v3, v4]
    have f3 := far 3
    have f4 := far 4
    simp only [q_mv, e]
    by_cases c : a = 0
    · rw [beq_iff_eq.2 c, cond_true, put_rw _ _ _ _ 3 _ (by omega), W_id (by rw [f3]; omega) (by rw [f3]; omega), if_pos c]
    · rw [beq_false_of_ne c, cond_false, put_rw _ _ _ _ 4 _ (by omega), W_id (by rw [f4]; omega) (by rw [f4]; omega), if_neg c]
  have fin : ∀ R, R = rwj (q_mv g s a lo hi C (k + 1)) sx jx → rounds (yAg fl pAg2) (kAg fl pAg2) mm (hAg2 n m (rwj g sx jx) r2 s lo hi i ((k + 1 : Nat) : Int)) [(74, .rows 26 12 n R), (26, .rows 3 1 m (q_row 1 C))] = rounds (yAg fl pAg2) (kAg fl pAg2) mm (hAg2 n m (rwj g sx jx) r2 s lo hi i ((k + 1 : Nat) : Int)) [(74, .rows 26 12 n (rwj (q_mv g s a lo hi C (k + 1)) sx jx)), (26, .rows 3 1 m (q_row 1 C))] := fun R e => by rw [e]
  have el : q_el (g (C k 0).toNat) a = q_ll g a C k := rfl
  have eh : q_eh (g (C k 0).toNat) a = q_hh g a C k := rfl
  rw [el] at b1 b2
  rw [eh] at b2
  simp only [el, eh]
  by_cases s0 : s.tmod 3 = 0
  · have e : q_by s lo hi (q_ll g a C k) (q_hh g a C k) = lo - q_ll g a C k := if_pos s0
    rw [if_pos (by simpa using s0), chk_true hcc, if_pos hrw, W_id (n := lo - q_ll g a C k) (by omega) (by omega)]
    exact fin _ (key _ e (by omega))
  · rw [if_neg (by simpa using s0)]
    by_cases s1 : s.tmod 3 = 1
    · have e : q_by s lo hi (q_ll g a C k) (q_hh g a C k) = q_round (lo + hi - q_ll g a C k - q_hh g a C k) 2 := by unfold q_by; rw [if_neg s0, if_pos s1]
      rw [if_pos (by simpa using s1), W_id (n := lo + hi) (by omega) (by omega), W_id (n := lo + hi - q_ll g a C k) (by omega) (by omega), W_id (n := lo + hi - q_ll g a C k - q_hh g a C k) (by omega) (by omega), if_pos (by
        have : q_small 1000000000000000000 (lo + hi - q_ll g a C k - q_hh g a C k) = true := small_iff.2 (by omega)
        rw [this]; rfl), chk_true hcc, if_pos hrw]
      exact fin _ (key _ e (by unfold q_round; omega))
    · have e : q_by s lo hi (q_ll g a C k) (q_hh g a C k) = hi - q_hh g a C k := by unfold q_by; rw [if_neg s0, if_neg s1]
      rw [if_neg (by simpa using s1), chk_true hcc, if_pos hrw, W_id (n := hi - q_hh g a C k) (by omega) (by omega)]
      exact fin _ (key _ e (by omega))
theorem mv_gd2 {n m : Nat} {g : Nat → Nat → Int} {C : Nat → Nat → Int} {s a lo hi : Int} (hg : q_gd n g) (hC : CIn n m C) (hI : ∀ p q, p < m → q < m → (C p 0).toNat = (C q 0).toNat → p = q) (hlo : -20000 ≤ lo ∧ lo ≤ 20000) (hhi : -20000 ≤ hi ∧ hi ≤ 21500) : q_gd2 n (q_mv g s a lo hi C m) ∧ ∀ i, i < n → (-85000 ≤ q_mv g s a lo hi C m i 3 ∧ q_mv g s a lo hi C m i 3 ≤ 85000) ∧ -85000 ≤ q_mv g s a lo hi C m i 4 ∧ q_mv g s a lo hi C m i 4 ≤ 85000 := by
  have same : ∀ i j, j ≠ 3 → j ≠ 4 → q_mv g s a lo hi C m i j = g i j := fun i j h3 h4 => mv_far m (fun e => by split at e <;> omega)
  have bd : ∀ i j, i < n → j = 3 ∨ j = 4 → -85000 ≤ q_mv g s a lo hi C m i j ∧ q_mv g s a lo hi C m i j ≤ 85000 := fun i j hin hj => by
    have gb := hg.2 i hin
    have g3 : -20000 ≤ g i 3 ∧ g i 3 ≤ 20000 := gb.2.2.2.1
    have g4 : -20000 ≤ g i 4 ∧ g i 4 ≤ 20000 := gb.2.2.2.2.1
    have gj : -20000 ≤ g i j ∧ g i j ≤ 20000 := by rcases hj with rfl | rfl <;> assumption
    by_cases hc : j = (if a = 0 then 3 else 4) ∧ ∃ p, p < m ∧ (C p 0).toNat = i
    · obtain ⟨hc, p, hp, rfl⟩ := hc
      have e := mv_at (g := g) (s := s) (a := a) (lo := lo) (hi := hi) hI m (Nat.le_refl m) hp
      rw [hc, e]
      rw [hc] at gj
      have hl := gd_el hg (i := (C p 0).toNat) hin a
      have el : q_el (g (C p 0).toNat) a = q_ll g a C p := rfl
      have eh : q_eh (g (C p 0).toNat) a = q_hh g a C p := rfl
      rw [el, eh] at hl
      have hby : -60000 ≤ q_by s lo hi (q_ll g a C p) (q_hh g a C p) ∧ q_by s lo hi (q_ll g a C p) (q_hh g a C p) ≤ 60000 := by
        unfold q_by
        split
        · omega
        · split
          · unfold q_round; omega
          · omega
      omega
    · rw [mv_far m (fun e q hq e2 => hc ⟨e, q, hq, e2⟩)]; omega
  refine ⟨⟨hg.1, fun i hi => ?_⟩, fun i hi => ⟨bd i 3 hi (.inl rfl), bd i 4 hi (.inr rfl)⟩⟩
  obtain ⟨a0, a1, a2, a3, a4, a5, a6, a7, a8, a9, a10⟩ := hg.2 i hi
  have b3 := bd i 3 hi (.inl rfl)
  have b4 := bd i 4 hi (.inr rfl)
  rw [same i 0 (by omega) (by omega), same i 1 (by omega) (by omega), same i 2 (by omega) (by omega), same i 5 (by omega) (by omega), same i 6 (by omega) (by omega), same i 7 (by omega) (by omega), same i 8 (by omega) (by omega), same i 9 (by omega) (by omega)]
  exact ⟨a0, a1, a2, by omega, by omega, a5, a6, a7, a8, a9, a10⟩
/-- Items that are there, none twice. -/
def q_it (n m : Nat) (B : Nat → Nat → Int) : Prop := (0 < m ∧ m ≤ 10) ∧ (∀ k, k < m → 1 ≤ B k 0 ∧ B k 0 ≤ n) ∧ ∀ i j, i < m → j < m → B i 0 = B j 0 → i = j
/-- Where they stand, in order. -/
def q_at (m : Nat) (B : Nat → Nat → Int) : Nat → Nat → Int := q_so (fun i _ => B i 0 - 1) m
theorem at_spec {n m : Nat} {B : Nat → Nat → Int} (h : q_it n m B) : CIn n m (q_at m B) ∧ (∀ p q, p < m → q < m → (q_at m B p 0).toNat = (q_at m B q 0).toNat → p = q) ∧ SortP m (fun i _ => B i 0 - 1) (q_at m B) := by
  obtain ⟨_, h2, h3⟩ := h
  have hp := so_P (n := m) (B := fun i _ => B i 0 - 1) m (Nat.le_refl m)
  have hC : CIn n m (q_at m B) := fun k hk => by
    obtain ⟨k', hk', e⟩ := hp.1 k hk
    have e : q_at m B k 0 = B k' 0 - 1 := e
    have := h2 k' hk'
    omega
  refine ⟨hC, fun p q hp' hq e => ?_, hp⟩
  have := so_inj (n := m) (B := fun i _ => B i 0 - 1) (fun i j hi hj e => h3 i j hi hj (by have e : B i 0 - 1 = B j 0 - 1 := e; omega)) m (Nat.le_refl m) p q hp' hq
  refine this ?_
  have c1 := hC p hp'
  have c2 := hC q hq
  show q_at m B p 0 = q_at m B q 0
  omega
def q_ax (s : Int) : Int := W (s.tdiv 3)
/-- Where Align puts the shapes. -/
def q_ag (g : Nat → Nat → Int) (m : Nat) (B : Nat → Nat → Int) (s : Int) : Nat → Nat → Int := q_mv g s (q_ax s) (q_lw g (q_ax s) (q_at m B) m) (q_hw g (q_ax s) (q_at m B) m) (q_at m B) m
theorem ag_eq (n m : Nat) (g : Nat → Nat → Int) (sx : Nat → Nat → ByteArray) (jx J : Nat → Nat → PS) (B : Nat → Nat → Int) (s : Int) (hg : q_gd n g) (hB : q_it n m B) (hs : 0 ≤ s ∧ s < 6) :
    callF prog gl DS 14 O24 0 12 [.one (.view n 12 (rwj g sx jx)), .one (.view m 1 (rj 1 B J)), i64 s] [] = some (.tup [.one (.view n 12 (rwj (q_ag g m B s) sx jx)), i64 0], []) := by
  obtain ⟨hm, hB2, hB3⟩ := id hB
  have hn := hg.1
  have g2 := gd_2 hg
  have hchk : q_chk n (q_nu n (rwj g sx jx)) = 0 := by rw [nu_rwj, chk_cg (g' := g) (fun k j hk hj => cutG_in hk hj)]; exact gd_chk g2
  have hfd : ∀ k, k < m → q_fd n (q_nu n (rwj g sx jx)) (q_num m 1 (rj 1 B J) k 0) = B k 0 - 1 := fun k hk => by
    rw [nu_rwj, num_rj, cut_in hk (by omega), fd_cg (g' := g) (fun q hq => cutG_in hq (by omega))]
    exact gd_fd g2 (hB2 k hk)
  have hal : q_alP n m (rwj g sx jx) (rj 1 B J) := ⟨⟨⟨g, sx, jx, rfl⟩, hchk, by omega⟩, ⟨hm.1, by omega, ⟨B, J, rfl⟩⟩, fun i hi => by
    unfold q_al1
    rw [hfd i hi, hfd 0 hm.1, nu_rwj, num_rj]
    have b1 := hB2 i hi
    have b0 := hB2 0 hm.1
    rw [if_neg (by omega), if_neg (by
      rw [cut_in hi (by omega), fd_no (fun k hk => by rw [cut_in (by omega) (by omega)]; exact fun e => by have := hB3 k i (by omega) hi e; omega)]
      decide), if_neg (by
      rw [cutG_in (by omega) (by omega), cutG_in (by omega) (by omega), (hg.2 _ (by omega)).2.1, (hg.2 (B 0 0 - 1).toNat (by omega)).2.1]; simp)]⟩
  have hpos : AgB m (q_pos n (q_nu n (rwj g sx jx)) (q_num m 1 (rj 1 B J))) (fun i _ => B i 0 - 1) := fun k hk => hfd k hk
  have hC0 := so_cg hpos
  obtain ⟨hC, hI, hP⟩ := at_spec hB
  rw [ag_pre, if_pos (q_dec_iff.2 hal)]
  -- the places, as they are told
  generalize hC' : q_so (q_pos n (q_nu n (rwj g sx jx)) (q_num m 1 (rj 1 B J))) m = C at *
  have hCe : ∀ k, k < m → C k 0 = q_at m B k 0 := fun k hk => hC0 k hk
  have hCC : CIn n m C := fun k hk => by rw [hCe k hk]; exact hC k hk
  have hII : ∀ p q, p < m → q < m → (C p 0).toNat = (C q 0).toNat → p = q := fun p q hp hq e => hI p q hp hq (by rw [← hCe p hp, ← hCe q hq]; exact e)
  have ha : W (s.tdiv 3) = q_ax s := rfl
  have c0 := hCC 0 hm.1
  have hb := lw_rng hg hCC (q_ax s) hm.1 m (Nat.le_refl m)
  have ell : ∀ k, k < m → q_ll g (q_ax s) C k = q_ll g (q_ax s) (q_at m B) k := fun k hk => by unfold q_ll; rw [hCe k hk]
  have ehh : ∀ k, k < m → q_hh g (q_ax s) C k = q_hh g (q_ax s) (q_at m B) k := fun k hk => by unfold q_hh; rw [hCe k hk]
  have elw : ∀ i, i ≤ m → q_lw g (q_ax s) C i = q_lw g (q_ax s) (q_at m B) i ∧ q_hw g (q_ax s) C i = q_hw g (q_ax s) (q_at m B) i := by
    intro i
    induction i with
    | zero => intro _; exact ⟨ell 0 hm.1, ehh 0 hm.1⟩
    | succ i ih =>
      intro hi
      obtain ⟨h1, h2⟩ := ih (by omega)
      simp only [q_lw, q_hw]
      rw [h1, h2, ell i (by omega), ehh i (by omega)]
      exact ⟨rfl, rfl⟩
  have emv : ∀ lo hi k, k ≤ m → q_mv g s (q_ax s) lo hi C k = q_mv g s (q_ax s) lo hi (q_at m B) k := by
    intro lo hi k
    induction k with
    | zero => intro _; rfl
    | succ k ih =>
      intro hk
      simp only [q_mv]
      rw [ih (by omega), hCe k (by omega), ell k (by omega), ehh k (by omega)]
  simp only [c10_el, c10_eh, c10_P, ha]
  rw [if_neg (by simp <;> omega), chk_true (by simp <;> omega), chk_true (by simp <;> omega), chk_true (by simp <;> omega), if_pos (q_dec_iff.2 (gd_P hg (by omega)))]
  refine ag1_loop 14 n m g sx jx (rj 1 B J) C s (q_ax s) hg hCC (by omega) ha _ (fun mm => ?_)
  rw [ag_st, if_neg (by simp), if_pos (q_dec_iff.2 ⟨⟨g, sx, jx, rfl⟩, by omega, by omega⟩)]
  refine loop_ex (body := yAg 14 pAg2) (K := kAg 14 pAg2) (σ := Unit) (fun k _ => hAg2 n m (rwj g sx jx) (rj 1 B J) s (q_lw g (q_ax s) C m) (q_hw g (q_ax s) C m) (m : Nat) ((k : Nat) : Int)) (fun k _ => [(74, .rows 26 12 n (rwj (q_mv g s (q_ax s) (q_lw g (q_ax s) C m) (q_hw g (q_ax s) C m) C k) sx jx)), (26, .rows 3 1 m (q_row 1 C))]) (fun _ _ => True) m (Z := fun x => x = some (PV.tup [.one (.view n 12 (rwj (q_ag g m B s) sx jx)), i64 0], [])) ?_ ?_ 14 0 () (by omega) (by omega) trivial
  · intro k _ mm hk _
    exact ⟨(), trivial, ag2_step 14 mm n m k g sx jx (rj 1 B J) C s (q_ax s) _ _ _ hg hCC hII (by omega) hk ha hb.1 hb.2⟩
  · intro _ mm _
    have hgd := (mv_gd2 (s := s) (a := q_ax s) hg hCC hII hb.1 hb.2).1
    rw [ag2_st, if_neg (by simp), if_pos (q_dec_iff.2 ⟨⟨_, sx, jx, rfl⟩, by omega⟩), nu_rwj, chk_cg (g' := q_mv g s (q_ax s) (q_lw g (q_ax s) C m) (q_hw g (q_ax s) C m) C m) (fun k j hk hj => cutG_in hk hj), gd_chk hgd, if_neg (by simp), emv _ _ m (Nat.le_refl m), (elw m (Nat.le_refl m)).1, (elw m (Nat.le_refl m)).2]
    rfl
end Go.Proofs.YtgipgiejdbhpkaaDoor.Sh
