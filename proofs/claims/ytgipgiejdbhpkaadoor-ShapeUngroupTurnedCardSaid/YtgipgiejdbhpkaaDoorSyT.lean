import Derived.Test.YtgipgiejdbhpkaaDoorSyA
namespace Go.Proofs.YtgipgiejdbhpkaaDoor.Sh
open Go Go.RowKit Go.Proofs.YtgipgiejdbhpkaaDoor.Ev Go.Proofs.Tryd
set_option maxRecDepth 1000000
set_option linter.unusedVariables false
/-! the sines' law of addition, nearly -/
theorem sn_half (t : Int) : q_sn (t + 1800) = -q_sn t := by
  have h1 := Int.emod_nonneg t (b := 3600) (by omega)
  have h2 := Int.emod_lt_of_pos t (b := 3600) (by omega)
  have z : q_sq 0 = 0 := by decide
  have e : (t + 1800) % 3600 = if t % 3600 < 1800 then t % 3600 + 1800 else t % 3600 - 1800 := by split <;> omega
  unfold q_sn
  rw [e]
  generalize t % 3600 = u at *
  clear e
  by_cases c : u < 1800
  · rw [if_pos c]
    by_cases c0 : u = 0
    · subst c0; simp [z]
    · by_cases c1 : u ≤ 900
      · rw [if_neg (by omega), if_pos (by omega), if_neg (by omega), if_neg (by omega), if_neg (by omega), show u + 1800 - 1800 = u by omega]
      · rw [if_pos (by omega), if_neg (by omega), if_neg (by omega), if_pos (by omega), show 3600 - (u + 1800) = 1800 - u by omega]
  · rw [if_neg c]
    by_cases c0 : u = 1800
    · subst c0; simp [z]
    · by_cases c1 : u ≤ 2700
      · rw [if_neg (by omega), if_neg (by omega), if_neg (by omega), if_neg (by omega), if_pos (by omega)]; omega
      · rw [if_neg (by omega), if_neg (by omega), if_pos (by omega), if_pos (by omega), show 1800 - (u - 1800) = 3600 - u by omega]; omega
theorem sn_per {t u : Int} (h : t % 3600 = u % 3600) : q_sn t = q_sn u := by unfold q_sn; rw [h]
/-- The sine of whole degrees. -/
def q_S (d : Int) : Int := q_sn (10 * d)
theorem S_half (d : Int) : q_S (d + 180) = -q_S d := by unfold q_S; rw [show 10 * (d + 180) = 10 * d + 1800 by omega, sn_half]
theorem S_low {d : Int} (h : 0 ≤ d ∧ d ≤ 90) : q_S d = q_qt d.toNat := by
  unfold q_S q_sn
  rw [show 10 * d % 3600 = 10 * d by omega, if_neg (by omega), if_neg (by omega), if_neg (by omega)]
  unfold q_sq
  rw [if_pos (by omega), show 10 * d / 10 = d by omega]
theorem S_mid {d : Int} (h : 90 ≤ d ∧ d ≤ 180) : q_S d = q_qt (180 - d).toNat := by
  by_cases c : d = 90
  · subst c; exact S_low (by omega)
  · unfold q_S q_sn
    rw [show 10 * d % 3600 = 10 * d by omega, if_neg (by omega), if_neg (by omega), if_pos (by omega)]
    unfold q_sq
    rw [if_pos (by omega), show (1800 - 10 * d) / 10 = 180 - d by omega]
theorem lin_arith {A B r : Int} (h : 0 ≤ r ∧ r < 10) : -5 ≤ 10 * ((A * (10 - r) + B * r + 5) / 10) - (A * (10 - r) + B * r) ∧ 10 * ((A * (10 - r) + B * r + 5) / 10) - (A * (10 - r) + B * r) ≤ 5 := by
  generalize A * (10 - r) + B * r = x
  omega
def Lin (t : Int) : Prop := -5 ≤ 10 * q_sn t - (q_S (t / 10) * (10 - t % 10) + q_S (t / 10 + 1) * (t % 10)) ∧ 10 * q_sn t - (q_S (t / 10) * (10 - t % 10) + q_S (t / 10 + 1) * (t % 10)) ≤ 5
theorem lin0 {t : Int} (h : t % 10 = 0) : Lin t := by
  have e : q_S (t / 10) = q_sn t := by unfold q_S; rw [show 10 * (t / 10) = t by omega]
  unfold Lin
  rw [h, e]
  omega
theorem lin1 {u : Int} (h : 0 ≤ u ∧ u < 1800) : Lin u := by
  by_cases h0 : u % 10 = 0
  · exact lin0 h0
  unfold Lin
  by_cases c : u < 900
  · have e : q_sn u = q_sq u := by
      unfold q_sn; rw [show u % 3600 = u by omega, if_neg (by omega), if_neg (by omega), if_neg (by omega)]
    rw [e, S_low (by omega), S_low (by omega)]
    unfold q_sq
    rw [if_neg h0]
    exact lin_arith (by omega)
  · have e : q_sn u = q_sq (1800 - u) := by
      unfold q_sn; rw [show u % 3600 = u by omega, if_neg (by omega), if_neg (by omega), if_pos (by omega)]
    rw [e, S_mid (by omega), S_mid (by omega)]
    unfold q_sq
    rw [if_neg (by omega), show (1800 - u) / 10 = 179 - u / 10 by omega, show (1800 - u) % 10 = 10 - u % 10 by omega, show 179 - u / 10 + 1 = 180 - u / 10 by omega, show 180 - (u / 10 + 1) = 179 - u / 10 by omega, show 10 - (10 - u % 10) = u % 10 by omega]
    have := @lin_arith (q_qt (180 - u / 10).toNat) (q_qt (179 - u / 10).toNat) (u % 10) (by omega)
    rw [Int.add_comm (q_qt (179 - u / 10).toNat * (u % 10))]
    exact this
theorem lin2 {u : Int} (h : 0 ≤ u ∧ u < 3600) : Lin u := by
  by_cases c : u < 1800
  · exact lin1 (by omega)
  · have := lin1 (u := u - 1800) (by omega)
    unfold Lin at this ⊢
    have e1 : q_sn u = -q_sn (u - 1800) := by rw [← sn_half, show u - 1800 + 1800 = u by omega]
    have e2 : q_S (u / 10) = -q_S ((u - 1800) / 10) := by rw [← S_half, show (u - 1800) / 10 + 180 = u / 10 by omega]
    have e3 : q_S (u / 10 + 1) = -q_S ((u - 1800) / 10 + 1) := by rw [← S_half, show (u - 1800) / 10 + 1 + 180 = u / 10 + 1 by omega]
    rw [e1, e2, e3, show u % 10 = (u - 1800) % 10 by omega, Int.neg_mul, Int.neg_mul]
    omega
theorem lin (t : Int) : Lin t := by
  have := lin2 (u := t % 3600) (by omega)
  unfold Lin at this ⊢
  have e1 : q_sn (t % 3600) = q_sn t := sn_per (by omega)
  have e2 : q_S (t % 3600 / 10) = q_S (t / 10) := sn_per (by omega)
  have e3 : q_S (t % 3600 / 10 + 1) = q_S (t / 10 + 1) := sn_per (by omega)
  rw [e1, e2, e3, show t % 3600 % 10 = t % 10 by omega] at this
  exact this
/-! the table -/
def sTab : List Int := qtab ++ (qtab.reverse.tail ++ [-1144])
def cTab : List Int := qtab.reverse ++ qtab.tail.map (fun x => -x)
def chk2 (sa ca : Int) : List Int → List Int → List Int → List Int → Bool
  | sb :: sbs, cb :: cbs, s :: ss, c :: cs => q_small 196607 (ca * cb - sa * sb - 65536 * c) && (q_small 196607 (sa * cb + ca * sb - 65536 * s) && chk2 sa ca sbs cbs ss cs)
  | _, _, _, _ => true
def chk1 (sb cb : List Int) : List Int → List Int → List Int → List Int → Bool
  | sa :: sas, ca :: cas, s :: ss, c :: cs => chk2 sa ca sb cb (s :: ss) (c :: cs) && chk1 sb cb sas cas ss cs
  | _, _, _, _ => true
def chk3 : List Int → Bool
  | a :: b :: c :: l => q_small 24 (a - 2 * b + c) && chk3 (b :: c :: l)
  | _ => true
theorem chk1_true : chk1 qtab qtab.reverse qtab qtab.reverse sTab cTab = true := by kernel_rfl
theorem chk3_true : chk3 sTab = true := by kernel_rfl
theorem chk2_at {sa ca : Int} : ∀ (sb cb s c : List Int), chk2 sa ca sb cb s c = true → ∀ b, b < sb.length → b < cb.length → b < s.length → b < c.length →
    q_small 196607 (ca * cb.getD b 0 - sa * sb.getD b 0 - 65536 * c.getD b 0) = true ∧ q_small 196607 (sa * cb.getD b 0 + ca * sb.getD b 0 - 65536 * s.getD b 0) = true := by
  intro sb
  induction sb with
  | nil => intro cb s c _ b h; exact absurd h (by simp)
  | cons x sb ih =>
    intro cb s c h b h1 h2 h3 h4
    cases cb with
    | nil => exact absurd h2 (by simp)
    | cons y cb => cases s with
      | nil => exact absurd h3 (by simp)
      | cons z s => cases c with
        | nil => exact absurd h4 (by simp)
        | cons v c =>
          rw [chk2, Bool.and_eq_true, Bool.and_eq_true] at h
          cases b with
          | zero => exact ⟨h.1, h.2.1⟩
          | succ b => exact ih cb s c h.2.2 b (by simpa using h1) (by simpa using h2) (by simpa using h3) (by simpa using h4)
theorem chk1_at {sb cb : List Int} : ∀ (sa ca s c : List Int), chk1 sb cb sa ca s c = true → ∀ a b, a < sa.length → a < ca.length → b < sb.length → b < cb.length → a + b < s.length → a + b < c.length →
    q_small 196607 (ca.getD a 0 * cb.getD b 0 - sa.getD a 0 * sb.getD b 0 - 65536 * c.getD (a + b) 0) = true ∧ q_small 196607 (sa.getD a 0 * cb.getD b 0 + ca.getD a 0 * sb.getD b 0 - 65536 * s.getD (a + b) 0) = true := by
  intro sa
  induction sa with
  | nil => intro ca s c _ a b h; exact absurd h (by simp)
  | cons x sa ih =>
    intro ca s c h a b h1 h2 h3 h4 h5 h6
    cases ca with
    | nil => exact absurd h2 (by simp)
    | cons y ca => cases s with
      | nil => exact absurd h5 (by simp)
      | cons z s => cases c with
        | nil => exact absurd h6 (by simp)
        | cons v c =>
          rw [chk1, Bool.and_eq_true] at h
          cases a with
          | zero =>
            simp only [Nat.zero_add] at h5 h6 ⊢
            exact chk2_at sb cb (z :: s) (v :: c) h.1 b h3 h4 h5 h6
          | succ a =>
            rw [Nat.succ_add] at h5 h6 ⊢
            exact ih ca s c h.2 a b (by simpa using h1) (by simpa using h2) h3 h4 (by simpa using h5) (by simpa using h6)
theorem chk3_at : ∀ (l : List Int), chk3 l = true → ∀ i, i + 2 < l.length → q_small 24 (l.getD i 0 - 2 * l.getD (i + 1) 0 + l.getD (i + 2) 0) = true := by
  intro l
  induction l with
  | nil => intro _ i h; exact absurd h (by simp)
  | cons x l ih =>
    intro h i hi
    cases l with
    | nil => exact absurd hi (by simp)
    | cons y l => cases l with
      | nil => exact absurd hi (by simp)
      | cons z l =>
        rw [chk3, Bool.and_eq_true] at h
        cases i with
        | zero => exact h.1
        | succ i => exact ih h.2 i (by simpa using hi)
theorem S_tab : ((List.range 182).all fun n => sTab.getD n 0 == q_S n) = true := by kernel_rfl
theorem C_tab : ((List.range 181).all fun n => cTab.getD n 0 == q_S (n + 90)) = true := by kernel_rfl
theorem q_tab : ((List.range 91).all fun n => qtab.getD n 0 == q_S n && qtab.reverse.getD n 0 == q_S (n + 90)) = true := by kernel_rfl
theorem S_at {n : Nat} (h : n < 182) : sTab.getD n 0 = q_S n := by simpa using List.all_eq_true.1 S_tab n (List.mem_range.2 h)
theorem C_at {n : Nat} (h : n < 181) : cTab.getD n 0 = q_S ((n : Int) + 90) := by simpa using List.all_eq_true.1 C_tab n (List.mem_range.2 h)
theorem q_at {n : Nat} (h : n < 91) : qtab.getD n 0 = q_S n ∧ qtab.reverse.getD n 0 = q_S ((n : Int) + 90) := by simpa using List.all_eq_true.1 q_tab n (List.mem_range.2 h)
def Add (a b : Int) : Prop := (-196608 ≤ q_S (a + 90) * q_S (b + 90) - q_S a * q_S b - 65536 * q_S (a + b + 90) ∧ q_S (a + 90) * q_S (b + 90) - q_S a * q_S b - 65536 * q_S (a + b + 90) ≤ 196608) ∧ -196608 ≤ q_S a * q_S (b + 90) + q_S (a + 90) * q_S b - 65536 * q_S (a + b) ∧ q_S a * q_S (b + 90) + q_S (a + 90) * q_S b - 65536 * q_S (a + b) ≤ 196608
theorem addD0 {a b : Int} (ha : 0 ≤ a ∧ a < 90) (hb : 0 ≤ b ∧ b < 90) : Add a b := by
  obtain ⟨a, rfl⟩ := Int.eq_ofNat_of_zero_le ha.1
  obtain ⟨b, rfl⟩ := Int.eq_ofNat_of_zero_le hb.1
  have l1 : qtab.length = 91 := by decide
  have l2 : qtab.reverse.length = 91 := by decide
  have l3 : sTab.length = 182 := by decide
  have l4 : cTab.length = 181 := by decide
  have h := chk1_at qtab qtab.reverse sTab cTab chk1_true a b (by omega) (by omega) (by omega) (by omega) (by omega) (by omega)
  rw [(q_at (by omega)).1, (q_at (by omega)).1, (q_at (by omega)).2, (q_at (by omega)).2, S_at (by omega), C_at (by omega), small_iff, small_iff] at h
  unfold Add
  rw [Int.natCast_add] at h
  omega
theorem S_per {d e : Int} (h : d % 360 = e % 360) : q_S d = q_S e := sn_per (by omega)
theorem add_q {a b : Int} (h : Add a b) : Add (a + 90) b := by
  unfold Add at h ⊢
  rw [show a + 90 + 90 = a + 180 by omega, S_half, show a + 90 + b = a + b + 90 by omega, show a + b + 90 + 90 = a + b + 180 by omega, S_half, Int.neg_mul, Int.neg_mul]
  omega
theorem add_per {a a' b : Int} (h : Add a b) (e : a % 360 = a' % 360) : Add a' b := by
  unfold Add at h ⊢
  rw [S_per (d := a') (e := a) (by omega), S_per (d := a' + 90) (e := a + 90) (by omega), S_per (d := a' + b) (e := a + b) (by omega), S_per (d := a' + b + 90) (e := a + b + 90) (by omega)]
  exact h
theorem addD1 {a b : Int} (hb : 0 ≤ b ∧ b < 90) : Add a b := by
  have h0 := addD0 (a := a % 90) (by omega) hb
  have h1 := add_q h0
  have h2 := add_q h1
  have h3 := add_q h2
  rcases (by omega : a % 360 = a % 90 ∨ a % 360 = a % 90 + 90 ∨ a % 360 = a % 90 + 90 + 90 ∨ a % 360 = a % 90 + 90 + 90 + 90) with e | e | e | e
  · exact add_per h0 (by omega)
  · exact add_per h1 (by omega)
  · exact add_per h2 (by omega)
  · exact add_per h3 (by omega)
theorem add_sym {a b : Int} (h : Add a b) : Add b a := by
  unfold Add at h ⊢
  rw [Int.add_comm b a, Int.mul_comm (q_S (b + 90)), Int.mul_comm (q_S b), Int.mul_comm (q_S b), Int.mul_comm (q_S (b + 90))]
  omega
theorem addD (a b : Int) : Add a b := by
  have h0 := add_sym (addD1 (a := a) (b := b % 90) (by omega))
  have h1 := add_q h0
  have h2 := add_q h1
  have h3 := add_q h2
  rcases (by omega : b % 360 = b % 90 ∨ b % 360 = b % 90 + 90 ∨ b % 360 = b % 90 + 90 + 90 ∨ b % 360 = b % 90 + 90 + 90 + 90) with e | e | e | e
  · exact add_sym (add_per h0 (by omega))
  · exact add_sym (add_per h1 (by omega))
  · exact add_sym (add_per h2 (by omega))
  · exact add_sym (add_per h3 (by omega))
theorem S_dd (d : Int) : -25 ≤ q_S d - 2 * q_S (d + 1) + q_S (d + 2) ∧ q_S d - 2 * q_S (d + 1) + q_S (d + 2) ≤ 25 := by
  have key : ∀ n : Nat, n < 180 → -25 ≤ q_S n - 2 * q_S ((n : Int) + 1) + q_S ((n : Int) + 2) ∧ q_S n - 2 * q_S ((n : Int) + 1) + q_S ((n : Int) + 2) ≤ 25 := fun n hn => by
    have l3 : sTab.length = 182 := by decide
    have h := chk3_at sTab chk3_true n (by omega)
    rw [S_at (by omega), S_at (by omega), S_at (by omega), small_iff] at h
    simp only [Int.natCast_add, Int.cast_ofNat_Int] at h
    omega
  have h := key (d % 180).toNat (by omega)
  rw [Int.toNat_of_nonneg (by omega)] at h
  by_cases c : d % 360 = d % 180
  · rw [S_per (d := d) (e := d % 180) (by omega), S_per (d := d + 1) (e := d % 180 + 1) (by omega), S_per (d := d + 2) (e := d % 180 + 2) (by omega)]
    exact h
  · rw [S_per (d := d) (e := d % 180 + 180) (by omega), S_per (d := d + 1) (e := d % 180 + 1 + 180) (by omega), S_per (d := d + 2) (e := d % 180 + 2 + 180) (by omega), S_half, S_half, S_half]
    omega
/-! between whole degrees -/
theorem mix1 {Ca Sa c2 s2 Cb0 Cb1 Sb0 Sb1 C0 C1 p : Int} (hp : 0 ≤ p ∧ p < 10) (b1 : -65536 ≤ Ca ∧ Ca ≤ 65536) (b2 : -65536 ≤ Sa ∧ Sa ≤ 65536)
    (h1 : -196608 ≤ Ca * Cb0 - Sa * Sb0 - 65536 * C0 ∧ Ca * Cb0 - Sa * Sb0 - 65536 * C0 ≤ 196608) (h2 : -196608 ≤ Ca * Cb1 - Sa * Sb1 - 65536 * C1 ∧ Ca * Cb1 - Sa * Sb1 - 65536 * C1 ≤ 196608)
    (hc : -5 ≤ 10 * c2 - (Cb0 * (10 - p) + Cb1 * p) ∧ 10 * c2 - (Cb0 * (10 - p) + Cb1 * p) ≤ 5) (hs : -5 ≤ 10 * s2 - (Sb0 * (10 - p) + Sb1 * p) ∧ 10 * s2 - (Sb0 * (10 - p) + Sb1 * p) ≤ 5) :
    -2621440 ≤ 10 * (Ca * c2 - Sa * s2) - 65536 * (C0 * (10 - p) + C1 * p) ∧ 10 * (Ca * c2 - Sa * s2) - 65536 * (C0 * (10 - p) + C1 * p) ≤ 2621440 := by
  have m1 := mul_bd (by omega) (by omega) b1 hc
  have m2 := mul_bd (by omega) (by omega) b2 hs
  have i1 : Ca * (10 * c2 - (Cb0 * (10 - p) + Cb1 * p)) = 10 * (Ca * c2) - (Ca * Cb0) * (10 - p) - (Ca * Cb1) * p := by grind
  have i2 : Sa * (10 * s2 - (Sb0 * (10 - p) + Sb1 * p)) = 10 * (Sa * s2) - (Sa * Sb0) * (10 - p) - (Sa * Sb1) * p := by grind
  rw [i1] at m1
  rw [i2] at m2
  generalize Ca * c2 = x1 at *
  generalize Sa * s2 = x2 at *
  generalize Ca * Cb0 = x3 at *
  generalize Ca * Cb1 = x4 at *
  generalize Sa * Sb0 = x5 at *
  generalize Sa * Sb1 = x6 at *
  clear i1 i2 hc hs b1 b2
  rcases (by omega : p = 0 ∨ p = 1 ∨ p = 2 ∨ p = 3 ∨ p = 4 ∨ p = 5 ∨ p = 6 ∨ p = 7 ∨ p = 8 ∨ p = 9) with rfl | rfl | rfl | rfl | rfl | rfl | rfl | rfl | rfl | rfl <;> omega
theorem S_bd (d : Int) : -65536 ≤ q_S d ∧ q_S d ≤ 65536 := sn_b2 _
theorem half1 (a t : Int) : -2621440 ≤ 10 * (q_S (a + 90) * q_sn (t + 900) - q_S a * q_sn t) - 65536 * (q_S (a + t / 10 + 90) * (10 - t % 10) + q_S (a + t / 10 + 91) * (t % 10)) ∧ 10 * (q_S (a + 90) * q_sn (t + 900) - q_S a * q_sn t) - 65536 * (q_S (a + t / 10 + 90) * (10 - t % 10) + q_S (a + t / 10 + 91) * (t % 10)) ≤ 2621440 := by
  have hs := lin t
  have hc := lin (t + 900)
  unfold Lin at hs hc
  rw [show (t + 900) / 10 = t / 10 + 90 by omega, show (t + 900) % 10 = t % 10 by omega] at hc
  have a1 := (addD a (t / 10)).1
  have a2 := (addD a (t / 10 + 1)).1
  rw [show a + (t / 10 + 1) + 90 = a + t / 10 + 91 by omega, show t / 10 + 1 + 90 = t / 10 + 90 + 1 by omega] at a2
  exact mix1 (by omega) (S_bd _) (S_bd _) a1 a2 hc hs
theorem mix2 {c1 s1 c2 s2 A0 A1 B0 B1 C0 C1 C2 c r p : Int} (hr : 0 ≤ r ∧ r < 10) (hp : 0 ≤ p ∧ p < 10) (b1 : -65536 ≤ c2 ∧ c2 ≤ 65536) (b2 : -65536 ≤ s2 ∧ s2 ≤ 65536)
    (h1 : -2621440 ≤ 10 * (A0 * c2 - B0 * s2) - 65536 * (C0 * (10 - p) + C1 * p) ∧ 10 * (A0 * c2 - B0 * s2) - 65536 * (C0 * (10 - p) + C1 * p) ≤ 2621440)
    (h2 : -2621440 ≤ 10 * (A1 * c2 - B1 * s2) - 65536 * (C1 * (10 - p) + C2 * p) ∧ 10 * (A1 * c2 - B1 * s2) - 65536 * (C1 * (10 - p) + C2 * p) ≤ 2621440)
    (hc : -5 ≤ 10 * c1 - (A0 * (10 - r) + A1 * r) ∧ 10 * c1 - (A0 * (10 - r) + A1 * r) ≤ 5) (hs : -5 ≤ 10 * s1 - (B0 * (10 - r) + B1 * r) ∧ 10 * s1 - (B0 * (10 - r) + B1 * r) ≤ 5)
    (hl : -5 ≤ 10 * c - (if r + p < 10 then C0 * (10 - (r + p)) + C1 * (r + p) else C1 * (20 - (r + p)) + C2 * (r + p - 10)) ∧ 10 * c - (if r + p < 10 then C0 * (10 - (r + p)) + C1 * (r + p) else C1 * (20 - (r + p)) + C2 * (r + p - 10)) ≤ 5)
    (hd : -25 ≤ C0 - 2 * C1 + C2 ∧ C0 - 2 * C1 + C2 ≤ 25) :
    -1966080 ≤ c1 * c2 - s1 * s2 - 65536 * c ∧ c1 * c2 - s1 * s2 - 65536 * c ≤ 1966080 := by
  have m1 := mul_bd (by omega) (by omega) b1 hc
  have m2 := mul_bd (by omega) (by omega) b2 hs
  have i1 : c2 * (10 * c1 - (A0 * (10 - r) + A1 * r)) = 10 * (c1 * c2) - (A0 * c2) * (10 - r) - (A1 * c2) * r := by grind
  have i2 : s2 * (10 * s1 - (B0 * (10 - r) + B1 * r)) = 10 * (s1 * s2) - (B0 * s2) * (10 - r) - (B1 * s2) * r := by grind
  rw [i1] at m1
  rw [i2] at m2
  generalize c1 * c2 = x1 at *
  generalize s1 * s2 = x2 at *
  generalize A0 * c2 = x3 at *
  generalize A1 * c2 = x4 at *
  generalize B0 * s2 = x5 at *
  generalize B1 * s2 = x6 at *
  clear i1 i2 hc hs b1 b2
  -- X: what stands for 10 (x1 - x2)
  have k1 : -1310720 ≤ 10 * (x1 - x2) - ((x3 - x5) * (10 - r) + (x4 - x6) * r) ∧ 10 * (x1 - x2) - ((x3 - x5) * (10 - r) + (x4 - x6) * r) ≤ 1310720 := by
    have : (x3 - x5) * (10 - r) + (x4 - x6) * r = x3 * (10 - r) + x4 * r - (x5 * (10 - r) + x6 * r) := by grind
    rw [this]
    omega
  clear m1 m2
  generalize x3 - x5 = y1 at *
  generalize x4 - x6 = y2 at *
  generalize x1 - x2 = y0 at *
  have l1 : y0 = y0 := rfl
  obtain ⟨e0, g0, q0⟩ : ∃ e0, e0 = C0 * (10 - p) + C1 * p ∧ True := ⟨_, rfl, trivial⟩
  obtain ⟨e1, g1, q1⟩ : ∃ e1, e1 = C1 * (10 - p) + C2 * p ∧ True := ⟨_, rfl, trivial⟩
  rw [← g0] at h1
  rw [← g1] at h2
  have k2 : -39321600 ≤ 100 * y0 - 65536 * (e0 * (10 - r) + e1 * r) ∧ 100 * y0 - 65536 * (e0 * (10 - r) + e1 * r) ≤ 39321600 := by
    clear hl hd g0 g1
    rcases (by omega : r = 0 ∨ r = 1 ∨ r = 2 ∨ r = 3 ∨ r = 4 ∨ r = 5 ∨ r = 6 ∨ r = 7 ∨ r = 8 ∨ r = 9) with rfl | rfl | rfl | rfl | rfl | rfl | rfl | rfl | rfl | rfl <;> omega
  clear k1 h1 h2 l1
  have k3 : -2080 ≤ e0 * (10 - r) + e1 * r - 100 * c ∧ e0 * (10 - r) + e1 * r - 100 * c ≤ 2080 := by
    clear k2
    subst g0 g1
    by_cases q : r + p < 10
    · rw [if_pos q] at hl
      have : (C0 * (10 - p) + C1 * p) * (10 - r) + (C1 * (10 - p) + C2 * p) * r = 10 * (C0 * (10 - (r + p)) + C1 * (r + p)) + (r * p) * (C0 - 2 * C1 + C2) := by grind
      rw [this]
      have hb := mul_bd (a := r * p) (A := 81) (by omega) (by omega) (by have := mul_bd (a := r) (b := p) (A := 9) (B := 9) (by omega) (by omega) (by omega) (by omega); omega) hd
      omega
    · rw [if_neg q] at hl
      have : (C0 * (10 - p) + C1 * p) * (10 - r) + (C1 * (10 - p) + C2 * p) * r = 10 * (C1 * (20 - (r + p)) + C2 * (r + p - 10)) + ((10 - r) * (10 - p)) * (C0 - 2 * C1 + C2) := by grind
      rw [this]
      have hb := mul_bd (a := (10 - r) * (10 - p)) (A := 81) (by omega) (by omega) (by have := mul_bd (a := 10 - r) (b := 10 - p) (A := 9) (B := 9) (by omega) (by omega) (by omega) (by omega); omega) hd
      omega
  omega
theorem sn_add (t u : Int) : -1966080 ≤ q_sn (t + 900) * q_sn (u + 900) - q_sn t * q_sn u - 65536 * q_sn (t + u + 900) ∧ q_sn (t + 900) * q_sn (u + 900) - q_sn t * q_sn u - 65536 * q_sn (t + u + 900) ≤ 1966080 := by
  have h1 := half1 (t / 10) u
  have h2 := half1 (t / 10 + 1) u
  rw [show t / 10 + 1 + u / 10 + 90 = t / 10 + u / 10 + 91 by omega, show t / 10 + 1 + u / 10 + 91 = t / 10 + u / 10 + 92 by omega] at h2
  have hs := lin t
  have hc := lin (t + 900)
  unfold Lin at hs hc
  rw [show (t + 900) / 10 = t / 10 + 90 by omega, show (t + 900) % 10 = t % 10 by omega, show t / 10 + 90 + 1 = t / 10 + 1 + 90 by omega] at hc
  have hd := S_dd (t / 10 + u / 10 + 90)
  rw [show t / 10 + u / 10 + 90 + 1 = t / 10 + u / 10 + 91 by omega, show t / 10 + u / 10 + 90 + 2 = t / 10 + u / 10 + 92 by omega] at hd
  have hl := lin (t + u + 900)
  unfold Lin at hl
  refine mix2 (r := t % 10) (p := u % 10) (by omega) (by omega) (sn_b2 _) (sn_b2 _) h1 h2 hc hs ?_ hd
  by_cases q : t % 10 + u % 10 < 10
  · rw [if_pos q]
    rw [show (t + u + 900) / 10 = t / 10 + u / 10 + 90 by omega, show (t + u + 900) % 10 = t % 10 + u % 10 by omega, show t / 10 + u / 10 + 90 + 1 = t / 10 + u / 10 + 91 by omega] at hl
    exact hl
  · rw [if_neg q]
    rw [show (t + u + 900) / 10 = t / 10 + u / 10 + 91 by omega, show (t + u + 900) % 10 = t % 10 + u % 10 - 10 by omega, show t / 10 + u / 10 + 91 + 1 = t / 10 + u / 10 + 92 by omega, show 10 - (t % 10 + u % 10 - 10) = 20 - (t % 10 + u % 10) by omega] at hl
    exact hl
theorem sn_add2 (t u : Int) : -1966080 ≤ q_sn t * q_sn (u + 900) + q_sn (t + 900) * q_sn u - 65536 * q_sn (t + u) ∧ q_sn t * q_sn (u + 900) + q_sn (t + 900) * q_sn u - 65536 * q_sn (t + u) ≤ 1966080 := by
  have h := sn_add (t + 900) u
  rw [show t + 900 + 900 = t + 1800 by omega, show t + 900 + u + 900 = t + u + 1800 by omega, sn_half, sn_half, Int.neg_mul] at h
  omega
end Go.Proofs.YtgipgiejdbhpkaaDoor.Sh
