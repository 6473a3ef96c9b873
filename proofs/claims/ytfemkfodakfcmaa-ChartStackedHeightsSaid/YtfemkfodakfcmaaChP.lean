import Derived.Test.YtfemkfodakfcmaaChO
namespace Go.Proofs.Ytfemkfodakfcmaa.Sh
open Go Go.RowKit Go.Proofs.Ytfemkfodakfcmaa.Ev Go.Proofs.Try
set_option maxRecDepth 100000
set_option linter.unusedVariables false
/-- Bars that lie inside and do not overlap. -/
def Good1 (B : Nat → Nat → Int) (w t : Int) (p : Nat) : Prop := 0 ≤ B p 2 ∧ 0 ≤ B p 3 ∧ 0 ≤ B p 4 ∧ 0 ≤ B p 5 ∧ B p 2 + B p 4 ≤ w ∧ B p 3 + B p 5 ≤ t
def Apart (B : Nat → Nat → Int) (p p' : Nat) : Prop := ¬ (B p 2 < B p' 2 + B p' 4 ∧ B p' 2 < B p 2 + B p 4 ∧ B p 3 < B p' 3 + B p' 5 ∧ B p' 3 < B p 3 + B p 5)
def BGood (L : Nat) (B : Nat → Nat → Int) (w t : Int) : Prop := (∀ p, p < L → Good1 B w t p) ∧ ∀ p p', p < L → p' < p → Apart B p p'
theorem W_good {B : Nat → Nat → Int} {w t : Int} {p : Nat} (h : Good1 B w t p) (hw : w ≤ 100000) (ht : t ≤ 100000) : W (B p 2 + B p 4) = B p 2 + B p 4 ∧ W (B p 3 + B p 5) = B p 3 + B p 5 := by
  obtain ⟨h1, h2, h3, h4, h5, h6⟩ := h
  exact ⟨W_id (by omega) (by omega), W_id (by omega) (by omega)⟩
theorem and4 {a b c d : Bool} (h : (bif bif bif a then b else false then c else false then d else false) = true) : a = true ∧ b = true ∧ c = true ∧ d = true := by cases a <;> cases b <;> cases c <;> cases d <;> simp_all
theorem bi2_loop (fl mm n m L n0 m0 iN : Nat) (k kk lo hi a b c kd w t s : Int) (nr sr nr0 sr0 : Nat → Nat → PS) (B : Nat → Nat → Int) (h : BGood L B w t) (hi' : iN < L) (hL : L ≤ 2400) (hw : w ≤ 100000) (ht : t ≤ 100000) (hf : 2500 ≤ fl) :
    rounds (yBI2 fl) (kBI2 fl mm (.one (.view L 6 (q_bi B))) (A0v k n0 m0 nr0 sr0) L lo hi t w kd s iN (bBI kk n m nr sr a b c)) fl (hBI2 (A0v k n0 m0 nr0 sr0) L iN B lo hi t w kd s iN (0 : Nat)) ((19, bar6 B iN) :: bBI kk n m nr sr a b c) = rounds (yBI fl) (kBI fl) mm (hBI (.one (.view L 6 (q_bi B))) (A0v k n0 m0 nr0 sr0) L lo hi t w kd s ((iN + 1 : Nat) : Int)) (bBI kk n m nr sr a b c) := by
  refine loop_ex (body := yBI2 fl) (K := kBI2 fl mm (.one (.view L 6 (q_bi B))) (A0v k n0 m0 nr0 sr0) L lo hi t w kd s iN (bBI kk n m nr sr a b c)) (σ := Unit) (fun j _ => hBI2 (A0v k n0 m0 nr0 sr0) L iN B lo hi t w kd s iN ((j : Nat) : Int)) (fun _ _ => (19, bar6 B iN) :: bBI kk n m nr sr a b c) (fun _ _ => True) iN (Z := fun x => x = rounds (yBI fl) (kBI fl) mm (hBI (.one (.view L 6 (q_bi B))) (A0v k n0 m0 nr0 sr0) L lo hi t w kd s ((iN + 1 : Nat) : Int)) (bBI kk n m nr sr a b c)) ?_ ?_ fl 0 () (by omega) (by omega) trivial
  · intro j _ m1 hj _
    refine ⟨(), trivial, ?_⟩
    obtain ⟨e1, e2⟩ := W_good (h.1 iN hi') hw ht
    obtain ⟨e3, e4⟩ := W_good (h.1 j (by omega)) hw ht
    rw [bi2_st, if_pos (by simp <;> omega), chk_true (by simp <;> omega), Int.toNat_natCast, e1, e2, e3, e4, if_neg (by
      have := h.2 iN j hi' hj
      unfold Apart at this
      intro hc
      refine this ?_
      obtain ⟨c1, c2, c3, c4⟩ := and4 hc
      exact ⟨of_decide_eq_true c1, of_decide_eq_true c2, of_decide_eq_true c3, of_decide_eq_true c4⟩), W_nat (by omega)]
    rfl
  · intro _ m1 _
    rw [bi2_st, if_neg (by simp), W_nat (by omega)]
theorem bi_loop (fl n m L n0 m0 : Nat) (k kk lo hi a b c kd w t s : Int) (nr sr nr0 sr0 : Nat → Nat → PS) (B : Nat → Nat → Int) (h : BGood L B w t) (hL : L ≤ 2400) (hw : w ≤ 100000) (ht : t ≤ 100000) (hf : 2500 ≤ fl) : ∀ (m1 i : Nat), i ≤ L → L < i + m1 →
    rounds (yBI fl) (kBI fl) m1 (hBI (.one (.view L 6 (q_bi B))) (A0v k n0 m0 nr0 sr0) L lo hi t w kd s i) (bBI kk n m nr sr a b c) = some (bl true, []) := fun m1 i h1 h2 => by
  refine loop_ex (body := yBI fl) (K := kBI fl) (σ := Unit) (fun i _ => hBI (.one (.view L 6 (q_bi B))) (A0v k n0 m0 nr0 sr0) L lo hi t w kd s ((i : Nat) : Int)) (fun _ _ => bBI kk n m nr sr a b c) (fun _ _ => True) L (Z := fun x => x = some (bl true, [])) ?_ ?_ m1 i () h1 h2 trivial
  · intro i _ mm hi' _
    refine ⟨(), trivial, ?_⟩
    have hg := h.1 i hi'
    obtain ⟨e1, e2⟩ := W_good hg hw ht
    obtain ⟨g1, g2, g3, g4, g5, g6⟩ := hg
    rw [bi_st, if_pos (by simp <;> omega), chk_true (by simp <;> omega), Int.toNat_natCast, e1, e2, if_neg (by
      rw [decide_eq_false (by omega), decide_eq_false (by omega), decide_eq_false (by omega), decide_eq_false (by omega), decide_eq_false (by omega), decide_eq_false (by omega)]
      decide), chk_true (by simp <;> omega)]
    exact bi2_loop fl mm n m L n0 m0 i k kk lo hi a b c kd w t s nr sr nr0 sr0 B h hi' hL hw ht hf
  · intro _ mm _
    rw [bi_st, if_neg (by simp)]
theorem bi_first (fl n m L n0 m0 : Nat) (k kk lo hi a b c kd w t s : Int) (nr sr nr0 sr0 : Nat → Nat → PS) (B : Nat → Nat → Int) (h : BGood L B w t) (h1 : 1 ≤ L) (hL : L ≤ 2400) (hw : w ≤ 100000) (ht : t ≤ 100000) (hf : 2500 ≤ fl) :
    rounds (yBI fl) (kBI fl) fl (hBI (.one (.os 51)) (A0v k n0 m0 nr0 sr0) L lo hi t w kd s (0 : Nat)) ((51, .rows 50 6 L (q_bi B)) :: bBI kk n m nr sr a b c) = some (bl true, []) := by
  obtain ⟨f, rfl⟩ : ∃ f', fl = f' + 1 := ⟨fl - 1, by omega⟩
  have hg := h.1 0 h1
  obtain ⟨e1, e2⟩ := W_good hg hw ht
  obtain ⟨g1, g2, g3, g4, g5, g6⟩ := hg
  rw [bi_one, if_pos (by simp <;> omega), chk_true (by simp <;> omega), chk_true (by simp <;> omega), Int.toNat_natCast, e1, e2, if_neg (by
      rw [decide_eq_false (by omega), decide_eq_false (by omega), decide_eq_false (by omega), decide_eq_false (by omega), decide_eq_false (by omega), decide_eq_false (by omega)]
      decide), chk_true (by simp <;> omega)]
  refine (bi2_one (f + 1) f f n m L 0 n0 m0 0 k kk lo hi a b c (0 : Nat) (0 : Nat) kd w t s nr sr nr0 sr0 B).trans ?_
  rw [if_neg (by simp), W_nat (i := 0) (by omega)]
  exact bi_loop (f + 1) n m L n0 m0 k kk lo hi a b c kd w t s nr sr nr0 sr0 B h hL hw ht hf f 1 (by omega) (by omega)
/-! the plain law -/
theorem pl_mono {a b c t v v' : Int} (h : q_plP a b c v t) (hv : v ≤ v') : q_pl a b v t ≤ q_pl a b v' t := by
  obtain ⟨⟨h1, h2, h3, h4, h5, h6, h7⟩, h8, h9, h10⟩ := h
  unfold q_pl
  have m2 : (v - a) * t ≤ (v' - a) * t := Int.mul_le_mul_of_nonneg_right (by omega) (by omega)
  have e1 : 2 * (v - a) * t = 2 * ((v - a) * t) := by rw [Int.mul_assoc]
  have e2 : 2 * (v' - a) * t = 2 * ((v' - a) * t) := by rw [Int.mul_assoc]
  exact Int.ediv_le_ediv (by omega) (by omega)
theorem mm_split {m p p' : Nat} (hm : 0 < m) (h : p' < p) : p' / m < p / m ∨ (p' / m = p / m ∧ p' % m < p % m) := by
  have h1 : p' / m ≤ p / m := Nat.div_le_div_right (by omega)
  have e1 := Nat.div_add_mod p m
  have e2 := Nat.div_add_mod p' m
  rcases Nat.lt_or_ge (p' / m) (p / m) with q | q
  · exact .inl q
  · have e : p' / m = p / m := by omega
    refine .inr ⟨e, ?_⟩
    rw [e] at e2
    omega
theorem q4 {w : Int} (hw : 0 ≤ w) {x y d : Nat} (hd : 0 < d) (hxy : x ≤ y) (hy : y ≤ d) : 0 ≤ w * (x : Int) / d ∧ w * (x : Int) / d ≤ w * (y : Int) / d ∧ w * (y : Int) / d ≤ w := by
  refine ⟨Int.ediv_nonneg (Int.mul_nonneg hw (by omega)) (by omega), Int.ediv_le_ediv (by omega) (Int.mul_le_mul_of_nonneg_left (by omega) hw), Int.ediv_le_of_le_mul (by omega) (Int.mul_le_mul_of_nonneg_left (by omega) hw)⟩
theorem edge_step {w : Int} {n i i' : Nat} (hw : 1 ≤ w ∧ w ≤ 100000) (hn : 1 ≤ n ∧ n ≤ 200) (h : i' < i) : w * (i' + 1 : Nat) / n ≤ w * i / n := Int.ediv_le_ediv (by omega) (Int.mul_le_mul_of_nonneg_left (by omega) (by omega))
theorem st_s {n m : Nat} {V : Nat → Nat → Int} {a b c t w lo hi : Int} (h : q_bP 1 n m V a b c t w lo hi) {i : Nat} (hi' : i < n) : q_z a b = 0 ∧ ∀ j, j ≤ m → q_plP a b c (q_sum V i j) t ∧ ∀ j', j ≤ j' → j' ≤ m → q_sum V i j ≤ q_sum V i j' := by
  obtain ⟨hok, hs, hw, ht, h1, h2, hR⟩ := h
  have g3 := hR.2.2.1 rfl
  have g4 := hR.1
  have g1 := hR.2.2.2.2 rfl i hi'
  refine ⟨by unfold q_z; omega, fun j hj => ⟨⟨hs, by omega, ?_⟩, fun j' h3 h4 => (sum_pos hok hi' j j' h3 h4).2⟩⟩
  have g2 := sum_pos hok hi' j m hj (Nat.le_refl _)
  omega
theorem bgood1 {k : Int} {n m : Nat} {V : Nat → Nat → Int} {a b c t w lo hi : Int} (h : q_bP k n m V a b c t w lo hi) {p i j : Nat} (hi' : i < n) (hj : j < m) (ep : p / m = i) (eq : p % m = j) : Good1 (q_BB k n m V a b t w) w t p := by
  have h' := h
  obtain ⟨⟨⟨k0, k2⟩, hn, hm, hV⟩, hs, hw, ht, h1, h2, hR⟩ := h
  have e1 := edge_le hw hn (show i ≤ n by omega)
  have e2 := edge_le hw hn (show i + 1 ≤ n by omega)
  have e3 := edge_mono (i := i) hw hn
  unfold Good1 q_BB
  rw [ep, eq]
  have hk : k = 0 ∨ k = 1 ∨ k = 2 := by omega
  rcases hk with rfl | rfl | rfl
  · have g := q4 (w := w * (i + 1 : Nat) / n - w * i / n) (by omega) (x := 2 * j + 1) (y := 2 * j + 3) (d := 2 * m + 2) (by omega) (by omega) (by omega)
    have c1 : (((2 * j + 1 : Nat) : Int)) = 2 * j + 1 := by omega
    have c3 : (((2 * j + 3 : Nat) : Int)) = 2 * j + 3 := by omega
    have c2 : (((2 * m + 2 : Nat) : Int)) = 2 * m + 2 := by omega
    rw [c1, c2, c3] at g
    have y1 := y_le (t := t) (c := c) (v := q_z a b) ⟨hs, by omega, z_in hs⟩
    have gV := hR.2.2.2.1 (by decide) i hi' j hj
    have y2 := y_le (t := t) (c := c) (v := V j i) ⟨hs, by omega, by omega⟩
    show 0 ≤ w * i / n + _ ∧ 0 ≤ min (q_y a b t (q_z a b)) (q_y a b t (V j i)) ∧ 0 ≤ _ - _ ∧ 0 ≤ max (q_y a b t (q_z a b)) (q_y a b t (V j i)) - min (q_y a b t (q_z a b)) (q_y a b t (V j i)) ∧ w * i / n + _ + (_ - _) ≤ w ∧ min (q_y a b t (q_z a b)) (q_y a b t (V j i)) + (max (q_y a b t (q_z a b)) (q_y a b t (V j i)) - min (q_y a b t (q_z a b)) (q_y a b t (V j i))) ≤ t
    omega
  · have g := q4 (w := w * (i + 1 : Nat) / n - w * i / n) (by omega) (x := 1) (y := 3) (d := 4) (by omega) (by omega) (by omega)
    obtain ⟨ez, hst⟩ := st_s h' hi'
    have y1 := y_le (hst j (by omega)).1
    have y2 := y_le (hst (j + 1) (by omega)).1
    have c1 : ((1 : Nat) : Int) = 1 := rfl
    have c3 : ((3 : Nat) : Int) = 3 := rfl
    have c4 : ((4 : Nat) : Int) = 4 := rfl
    rw [c1, c3, c4] at g
    show 0 ≤ w * i / n + _ ∧ 0 ≤ min (q_y a b t (q_z a b + q_sum V i j)) (q_y a b t (q_z a b + q_sum V i (j + 1))) ∧ 0 ≤ _ - _ ∧ 0 ≤ max (q_y a b t (q_z a b + q_sum V i j)) (q_y a b t (q_z a b + q_sum V i (j + 1))) - min (q_y a b t (q_z a b + q_sum V i j)) (q_y a b t (q_z a b + q_sum V i (j + 1))) ∧ w * i / n + _ + (_ - _) ≤ w ∧ min (q_y a b t (q_z a b + q_sum V i j)) (q_y a b t (q_z a b + q_sum V i (j + 1))) + (max (q_y a b t (q_z a b + q_sum V i j)) (q_y a b t (q_z a b + q_sum V i (j + 1))) - min (q_y a b t (q_z a b + q_sum V i j)) (q_y a b t (q_z a b + q_sum V i (j + 1)))) ≤ t
    rw [ez, Int.zero_add, Int.zero_add]
    omega
  · have gV := hR.2.2.2.1 (by decide) i hi' j hj
    have y2 := y_le (t := t) (c := c) (v := V j i) ⟨hs, by omega, by omega⟩
    show 0 ≤ (w * i / n + w * (i + 1 : Nat) / n) / 2 ∧ 0 ≤ q_y a b t (V j i) ∧ (0 : Int) ≤ 0 ∧ (0 : Int) ≤ 0 ∧ (w * i / n + w * (i + 1 : Nat) / n) / 2 + 0 ≤ w ∧ q_y a b t (V j i) + 0 ≤ t
    omega
theorem bgood2 {k : Int} {n m : Nat} {V : Nat → Nat → Int} {a b c t w lo hi : Int} (h : q_bP k n m V a b c t w lo hi) {p p' i j i' j' : Nat} (hi' : i < n) (hj : j < m) (hj' : j' < m) (ep : p / m = i) (eq : p % m = j) (ep' : p' / m = i') (eq' : p' % m = j') (hlt : i' < i ∨ (i' = i ∧ j' < j)) : Apart (q_BB k n m V a b t w) p p' := by
  have h' := h
  obtain ⟨⟨⟨k0, k2⟩, hn, hm, hV⟩, hs, hw, ht, h1, h2, hR⟩ := h
  have hin : i' < n := by rcases hlt with q | ⟨q, _⟩ <;> omega
  have e1 := edge_le hw hn (show i ≤ n by omega)
  have e2 := edge_le hw hn (show i + 1 ≤ n by omega)
  have e3 := edge_mono (i := i) hw hn
  have d1 := edge_le hw hn (show i' ≤ n by omega)
  have d2 := edge_le hw hn (show i' + 1 ≤ n by omega)
  have d3 := edge_mono (i := i') hw hn
  unfold Apart q_BB
  rw [ep, eq, ep', eq']
  have hk : k = 0 ∨ k = 1 ∨ k = 2 := by omega
  rcases hk with rfl | rfl | rfl
  · have g := q4 (w := w * (i + 1 : Nat) / n - w * i / n) (by omega) (x := 2 * j + 1) (y := 2 * j + 3) (d := 2 * m + 2) (by omega) (by omega) (by omega)
    have g' := q4 (w := w * (i' + 1 : Nat) / n - w * i' / n) (by omega) (x := 2 * j' + 1) (y := 2 * j' + 3) (d := 2 * m + 2) (by omega) (by omega) (by omega)
    have c1 : (((2 * j + 1 : Nat) : Int)) = 2 * j + 1 := by omega
    have c3 : (((2 * j + 3 : Nat) : Int)) = 2 * j + 3 := by omega
    have c2 : (((2 * m + 2 : Nat) : Int)) = 2 * m + 2 := by omega
    have c1' : (((2 * j' + 1 : Nat) : Int)) = 2 * j' + 1 := by omega
    have c3' : (((2 * j' + 3 : Nat) : Int)) = 2 * j' + 3 := by omega
    rw [c1, c2, c3] at g
    rw [c1', c2, c3'] at g'
    rintro ⟨q, _, _, _⟩
    have q : w * i / n + (w * (i + 1 : Nat) / n - w * i / n) * (2 * j + 1) / (2 * m + 2) < w * i' / n + (w * (i' + 1 : Nat) / n - w * i' / n) * (2 * j' + 1) / (2 * m + 2) + ((w * (i' + 1 : Nat) / n - w * i' / n) * (2 * j' + 3) / (2 * m + 2) - (w * (i' + 1 : Nat) / n - w * i' / n) * (2 * j' + 1) / (2 * m + 2)) := q
    rcases hlt with hlt | ⟨rfl, hlt⟩
    · have := edge_step hw hn hlt
      omega
    · have g2 := q4 (w := w * (i' + 1 : Nat) / n - w * i' / n) (by omega) (x := 2 * j' + 3) (y := 2 * j + 1) (d := 2 * m + 2) (by omega) (by omega) (by omega)
      rw [c1, c2, c3'] at g2
      omega
  · have g := q4 (w := w * (i + 1 : Nat) / n - w * i / n) (by omega) (x := 1) (y := 3) (d := 4) (by omega) (by omega) (by omega)
    have g' := q4 (w := w * (i' + 1 : Nat) / n - w * i' / n) (by omega) (x := 1) (y := 3) (d := 4) (by omega) (by omega) (by omega)
    have c1 : ((1 : Nat) : Int) = 1 := rfl
    have c3 : ((3 : Nat) : Int) = 3 := rfl
    have c4 : ((4 : Nat) : Int) = 4 := rfl
    rw [c1, c3, c4] at g g'
    rintro ⟨q, _, _, r⟩
    have q : w * i / n + (w * (i + 1 : Nat) / n - w * i / n) * 1 / 4 < w * i' / n + (w * (i' + 1 : Nat) / n - w * i' / n) * 1 / 4 + ((w * (i' + 1 : Nat) / n - w * i' / n) * 3 / 4 - (w * (i' + 1 : Nat) / n - w * i' / n) * 1 / 4) := q
    have r : min (q_y a b t (q_z a b + q_sum V i' j')) (q_y a b t (q_z a b + q_sum V i' (j' + 1))) < min (q_y a b t (q_z a b + q_sum V i j)) (q_y a b t (q_z a b + q_sum V i (j + 1))) + (max (q_y a b t (q_z a b + q_sum V i j)) (q_y a b t (q_z a b + q_sum V i (j + 1))) - min (q_y a b t (q_z a b + q_sum V i j)) (q_y a b t (q_z a b + q_sum V i (j + 1)))) := r
    rcases hlt with hlt | ⟨rfl, hlt⟩
    · have := edge_step hw hn hlt
      omega
    · obtain ⟨ez, hst⟩ := st_s h' hi'
      rw [ez, Int.zero_add, Int.zero_add, Int.zero_add, Int.zero_add] at r
      have m1 := pl_mono (hst j' (by omega)).1 ((hst j' (by omega)).2 (j' + 1) (by omega) (by omega))
      have m2 := pl_mono (hst (j' + 1) (by omega)).1 ((hst (j' + 1) (by omega)).2 j (by omega) (by omega))
      have m3 := pl_mono (hst j (by omega)).1 ((hst j (by omega)).2 (j + 1) (by omega) (by omega))
      unfold q_y at r
      omega
  · rintro ⟨q, r, _, _⟩
    have q : (w * i / n + w * (i + 1 : Nat) / n) / 2 < (w * i' / n + w * (i' + 1 : Nat) / n) / 2 + 0 := q
    have r : (w * i' / n + w * (i' + 1 : Nat) / n) / 2 < (w * i / n + w * (i + 1 : Nat) / n) / 2 + 0 := r
    omega
theorem bgood {k : Int} {n m : Nat} {V : Nat → Nat → Int} {a b c t w lo hi : Int} (h : q_bP k n m V a b c t w lo hi) : BGood (n * m) (q_BB k n m V a b t w) w t := by
  have hm : 0 < m := h.1.2.2.1.1
  refine ⟨fun p hp => ?_, fun p p' hp hp' => ?_⟩
  · exact bgood1 h ((Nat.div_lt_iff_lt_mul hm).2 hp) (Nat.mod_lt _ hm) rfl rfl
  · exact bgood2 h ((Nat.div_lt_iff_lt_mul hm).2 hp) (Nat.mod_lt _ hm) (Nat.mod_lt _ hm) rfl rfl rfl rfl (mm_split hm hp')
theorem within_in (v lo hi : Int) (h : lo ≤ hi) : lo ≤ q_within v lo hi ∧ q_within v lo hi ≤ hi := by
  unfold q_within
  have h2 := Int.emod_nonneg v (b := hi - lo + 1) (by omega)
  have h3 := Int.emod_lt_of_pos v (b := hi - lo + 1) (by omega)
  omega
theorem q_okX (kd : Int) (hk : 0 ≤ kd ∧ kd ≤ 2) (n0 m0 : Nat) (ln : Nat → Nat) (V : Nat → Nat → Int) : q_ok kd (q_nn n0) (q_mm m0) (q_bX kd m0 ln V) := by
  have h1 := nn_le n0
  have h2 := mm_le m0
  exact ⟨hk, by omega, by omega, fun i j _ _ => bX_le kd m0 ln V i j⟩
/-- ChartBarsInside answers true. -/
theorem bi_true (n0 m0 : Nat) (k kd w t s : Int) (nr0 sr0 : Nat → Nat → PS) (h : q_is2 sr0) : callF prog gl DL 2500 O16 0 4 [A0v k n0 m0 nr0 sr0, i64 kd, i64 w, i64 t, i64 s] [] = some (bl true, []) := by
  rw [bi_pre]
  have k1 := within_in kd 0 2 (by omega)
  have w1 := within_in w 1 5000 (by omega)
  have t1 := within_in t 1 5000 (by omega)
  have s1 := within_in s 2 20 (by omega)
  generalize q_within kd 0 2 = K at *
  generalize q_within w 1 5000 = W' at *
  generalize q_within t 1 5000 = T at *
  generalize q_within s 2 20 = S at *
  have hok := q_okX K k1 n0 m0 (q_ln sr0) (q_V sr0)
  have n1 := nn_le n0
  have m1 := mm_le m0
  have nmb : q_nn n0 * q_mm m0 ≤ 2400 := nm_le (n := q_nn n0) (Nat.le_refl _) (by omega) (by omega)
  have nm1 : 1 ≤ q_nn n0 * q_mm m0 := Nat.mul_pos (by omega) (by omega)
  have ecast : ((q_nn n0 * q_mm m0 : Nat) : Int) = (q_nn n0 : Int) * (q_mm m0 : Int) := Int.natCast_mul _ _
  rw [if_pos (q_dec_iff.2 ⟨h, by omega⟩)]
  generalize q_nn n0 = n at *
  generalize q_mm m0 = m at *
  generalize q_bX K m0 (q_ln sr0) (q_V sr0) = X at *
  rw [V_sr, if_pos (q_dec_iff.2 ⟨⟨X, rfl⟩, hok⟩)]
  obtain ⟨_, hR⟩ := rg_spec (nr := q_nrow) (sr := q_sr n X) ⟨⟨X, rfl⟩, hok⟩
  have hR : RgO K m X n (q_lo n m K q_nrow (q_sr n X)) (q_hi n m K q_nrow (q_sr n X)) := hR
  generalize q_lo n m K q_nrow (q_sr n X) = lo at *
  generalize q_hi n m K q_nrow (q_sr n X) = hi at *
  have hfd : q_fdP lo hi S := ⟨hR.1, s1⟩
  obtain ⟨_, hsc, hl, hh, _⟩ := fd_spec hfd
  have hsc : q_sc (q_fd1 lo hi S) (q_fd2 lo hi S) (q_fd3 lo hi S) := hsc
  have hl : q_fd1 lo hi S ≤ lo := hl
  have hh : hi ≤ q_fd2 lo hi S := hh
  generalize q_fd1 lo hi S = a at *
  generalize q_fd2 lo hi S = b at *
  generalize q_fd3 lo hi S = c at *
  have hbP : q_bP K n m X a b c T W' lo hi := ⟨hok, hsc, by omega, by omega, hl, hh, hR⟩
  rw [if_pos (q_dec_iff.2 hfd), if_pos (q_dec_iff.2 ⟨⟨X, rfl⟩, hbP⟩), if_neg (by rw [← ecast, W_id (by omega) (by omega)]; simp)]
  exact bi_first 2500 n m (n * m) n0 m0 k K lo hi a b c kd W' T s q_nrow (q_sr n X) nr0 sr0 (q_BB K n m X a b T W') (bgood hbP) nm1 nmb (by omega) (by omega) (by omega)
end Go.Proofs.Ytfemkfodakfcmaa.Sh
