import Derived.Test.YtfemkfodakfcmaaDoorShL
namespace Go.Proofs.YtfemkfodakfcmaaDoor.Sh
open Go Go.RowKit Go.Proofs.YtfemkfodakfcmaaDoor.Ev Go.Proofs.Tryd
set_option maxRecDepth 100000
/-! #### the plain law: drawn shapes, none turned -/
section drawn
variable (g : Nat → Nat → Int)
theorem par_bd (i : Nat) : 0 ≤ q_par g i ∧ q_par g i ≤ i ∧ (q_par g i ≠ 0 → q_shG g (q_par g i - 1).toNat 2 = 5) := by
  unfold q_par
  split
  · rename_i h
    have bd := within_bd (v := W ((g i 1).tdiv 3)) (lo := 0) (hi := (i : Int) - 1) (by omega)
    split
    · rename_i h5
      refine ⟨by omega, by omega, fun _ => ?_⟩
      rw [Int.add_sub_cancel]
      exact h5
    · exact ⟨by omega, by omega, fun h => absurd rfl h⟩
  · exact ⟨by omega, by omega, fun h => absurd rfl h⟩
theorem shG_std {n : Nat} (hn : n ≤ 10) {p : Int} (h0 : 0 ≤ p) (hp : p ≤ n) : Std n (q_shG g) p := ⟨hn, h0, hp, fun i _ => by
  obtain ⟨a1, a2, _⟩ := par_bd g i
  refine ⟨rfl, a1, a2, fun j h3 h6 => ?_, by show (-4000 : Int) ≤ 0; omega, by show (0 : Int) ≤ 4000; omega⟩
  have b3 := within_bd (v := g i 3) (lo := -2000) (hi := 2000) (by omega)
  have b4 := within_bd (v := g i 4) (lo := -2000) (hi := 2000) (by omega)
  have b5 := within_bd (v := g i 5) (lo := 0) (hi := 1500) (by omega)
  have b6 := within_bd (v := g i 6) (lo := 0) (hi := 1500) (by omega)
  rcases (by omega : j = 3 ∨ j = 4 ∨ j = 5 ∨ j = 6) with rfl | rfl | rfl | rfl
  · exact b3
  · exact b4
  · exact ⟨by show -2000 ≤ q_within (g i 5) 0 1500; omega, by show q_within (g i 5) 0 1500 ≤ 2000; omega⟩
  · exact ⟨by show -2000 ≤ q_within (g i 6) 0 1500; omega, by show q_within (g i 6) 0 1500 ≤ 2000; omega⟩⟩
theorem shG_grp (p : Int) (h : p ≠ 0 → q_shG g (p - 1).toNat 2 = 5) : Grp (q_shG g) p := ⟨fun i _ hne => (par_bd g i).2.2 hne, h⟩
theorem shG_at (i : Nat) : (0 ≤ q_shG g i 2 ∧ q_shG g i 2 ≤ 7) ∧ (-2000 ≤ q_shG g i 3 ∧ q_shG g i 3 ≤ 2000) ∧ (-2000 ≤ q_shG g i 4 ∧ q_shG g i 4 ≤ 2000) ∧ (0 ≤ q_shG g i 5 ∧ q_shG g i 5 ≤ 1500) ∧ (0 ≤ q_shG g i 6 ∧ q_shG g i 6 ≤ 1500) ∧ (0 ≤ q_shG g i 8 ∧ q_shG g i 8 ≤ 11) ∧ (0 ≤ q_shG g i 9 ∧ q_shG g i 9 ≤ 11) ∧ (q_shG g i 2 ≠ 6 → q_shG g i 8 = 0 ∧ q_shG g i 9 = 0) := by
  refine ⟨within_bd (by omega), within_bd (by omega), within_bd (by omega), within_bd (by omega), within_bd (by omega), ?_, ?_, fun h => ?_⟩
  · show (0 : Int) ≤ (if q_within (g i 2) 0 7 = 6 then q_within (g i 8) 0 11 else 0) ∧ (if q_within (g i 2) 0 7 = 6 then q_within (g i 8) 0 11 else 0) ≤ 11
    split
    · exact within_bd (by omega)
    · omega
  · show (0 : Int) ≤ (if q_within (g i 2) 0 7 = 6 then q_within (g i 9) 0 11 else 0) ∧ (if q_within (g i 2) 0 7 = 6 then q_within (g i 9) 0 11 else 0) ≤ 11
    split
    · exact within_bd (by omega)
    · omega
  · have h' : ¬ q_within (g i 2) 0 7 = 6 := h
    exact ⟨(if_neg h' : (if q_within (g i 2) 0 7 = 6 then q_within (g i 8) 0 11 else 0) = (0 : Int)), (if_neg h' : (if q_within (g i 2) 0 7 = 6 then q_within (g i 9) 0 11 else 0) = (0 : Int))⟩
theorem shG_val {n : Nat} (hn : n ≤ 10) : Val n (q_shG g) := by
  refine ⟨hn, fun i hi => ?_, fun i k hik hk => ?_, fun k hk => ?_⟩
  · obtain ⟨a2, a3, a4, a5, a6, a8, a9, a10⟩ := shG_at g i
    obtain ⟨p1, p2, _⟩ := par_bd g i
    have e0 : q_shG g i 0 = (i : Int) + 1 := rfl
    have e1 : q_shG g i 1 = q_par g i := rfl
    have e7 : q_shG g i 7 = 0 := rfl
    rw [e0, e1, e7]
    exact ⟨a2, ⟨by omega, by omega⟩, ⟨by omega, by omega⟩, ⟨by omega, by omega⟩, ⟨by omega, by omega⟩, ⟨by omega, by omega⟩, ⟨by omega, by omega⟩, ⟨by omega, by omega⟩, ⟨by omega, by omega⟩, ⟨by omega, by omega⟩, a10⟩
  · show (i : Int) + 1 ≠ (k : Int) + 1
    omega
  · obtain ⟨p1, p2, p3⟩ := par_bd g k
    exact ⟨shG_std g (by omega) p1 p2, shG_grp g _ p3⟩
end drawn
/-- Where nothing is turned, a point of a group moves by the groups' places. -/
theorem out_flat {n : Nat} {g : Nat → Nat → Int} : ∀ (k : Nat) (p x y : Int), Std n g p → (∀ i : Nat, (i : Int) < p → g i 7 = 0) → q_out g k p x y = (x + offF g k p 3, y + offF g k p 4) := by
  intro k
  induction k with
  | zero => intro p x y _ _; unfold q_out offF; rw [Int.add_zero, Int.add_zero]
  | succ k ih =>
    intro p x y hS hz
    unfold q_out offF
    by_cases h0 : p = 0
    · rw [if_pos h0, if_pos h0, if_pos h0, Int.add_zero, Int.add_zero]
    · rw [if_neg h0, if_neg h0, if_neg h0]
      obtain ⟨hn, hp0, hpn, hg⟩ := hS
      have hi : (((p - 1).toNat : Nat) : Int) = p - 1 := Int.toNat_of_nonneg (by omega)
      obtain ⟨_, g1, g1', _⟩ := hg (p - 1).toNat (by omega)
      rw [hz (p - 1).toNat (by omega), tx0, ty0, ih _ _ _ ⟨hn, g1, by omega, fun i h => hg i (by omega)⟩ (fun i h => hz i (by omega))]
      rw [Int.add_assoc, Int.add_assoc]
theorem hit_none {g : Nat → Nat → Int} {row : Nat → Nat → PS} {x y : Int} : ∀ n, (∀ k, k < n → x - q_off row (g k 1) 3 < g k 3) → hitF g row x y n = 0 := by
  intro n
  induction n with
  | zero => intro _; rfl
  | succ n ih =>
    intro h
    unfold hitF
    have h1 := ih (fun k hk => h k (by omega))
    split
    · exact h1
    · rw [if_neg, h1]
      unfold q_ins
      rw [if_pos (.inl (h n (by omega)))]
      decide
theorem hit_from {g : Nat → Nat → Int} {row : Nat → Nat → PS} {x y : Int} {k : Nat} (hk : ¬ (g k 2 = 5 ∨ g k 2 = 6)) (hi : q_ins (g k 2) (g k 3) (g k 4) (g k 5) (g k 6) (x - q_off row (g k 1) 3) (y - q_off row (g k 1) 4) = true) (hg : ∀ i, g i 0 = (i : Int) + 1) : ∀ n, k < n → (k : Int) + 1 ≤ hitF g row x y n := by
  intro n
  induction n with
  | zero => intro h; omega
  | succ n ih =>
    intro h
    unfold hitF
    by_cases e : k = n
    · subst e
      rw [if_neg hk, if_pos hi, hg]
      omega
    · have h1 := ih (by omega)
      split
      · exact h1
      · split
        · rw [hg]; omega
        · exact h1
theorem ins_mid {k X Y Wd Ht : Int} (hW : 0 ≤ Wd) (hH : 0 ≤ Ht) (ho : ¬ (k = 1 ∧ (Wd = 1 ∨ Ht = 1))) : q_ins k X Y Wd Ht (X + Wd / 2) (Y + Ht / 2) = true := by
  have key : ∀ {b : Int}, 1 < b ∨ b = 0 → 0 < b → ∀ X : Int, -400 ≤ q_round (1024 * (2 * (X + b / 2) - 2 * X - b)) b ∧ q_round (1024 * (2 * (X + b / 2) - 2 * X - b)) b ≤ 400 := fun {b} hb hb0 X => by
    unfold q_round
    rcases (by omega : b % 2 = 0 ∨ b % 2 = 1) with h | h
    · have e : 2 * (1024 * (2 * (X + b / 2) - 2 * X - b)) + b = b := by omega
      rw [e]
      have : b / (2 * b) = 0 := Int.ediv_eq_zero_of_lt (by omega) (by omega)
      omega
    · have e : 2 * (1024 * (2 * (X + b / 2) - 2 * X - b)) + b = b - 2048 := by omega
      rw [e]
      have h1 : -400 ≤ (b - 2048) / (2 * b) := by rw [Int.le_ediv_iff_mul_le (by omega)]; omega
      have h2 : (b - 2048) / (2 * b) < 1 := by rw [Int.ediv_lt_iff_lt_mul (by omega)]; omega
      omega
  unfold q_ins
  rw [if_neg (by omega)]
  split
  · rfl
  · rename_i h
    have b1 := key (b := Wd) (by omega) (by omega) X
    have b2 := key (b := Ht) (by omega) (by omega) Y
    have m1 := mul_bd (by omega) (by omega) b1 b1
    have m2 := mul_bd (by omega) (by omega) b2 b2
    simp only [decide_eq_true_eq]
    omega
theorem hm_eq0 (row : Nat → Nat → PS) (w : Int) (h : q_isRw row) : callF prog gl noD 1 Oi 0 5 [.one (.view 0 12 row), i64 w] [] = some (bl true, []) := by
  rw [hm_raw0, if_pos (q_dec_iff.2 h)]
theorem hm_eq (q : Nat) (row : Nat → Nat → PS) (w : Int) (h : q_isRw row) : callF prog gl noD 1 Oi 0 5 [.one (.view (q + 1) 12 row), i64 w] [] = some (bl true, []) := by
  rw [hm_raw, if_pos (q_dec_iff.2 h)]
  have hN : q_ten (q + 1) ≤ 10 ∧ 1 ≤ q_ten (q + 1) := by unfold q_ten; split <;> omega
  have hR : q_shR row = rwj (fun i j => q_shG (fun i j => q_gi (row i j)) i j) (fun i j => if j = 10 then q_gs (row i 10) else emp) (fun _ _ => .nilp) := rfl
  generalize q_ten (q + 1) = N at *
  generalize (fun i j => q_gi (row i j)) = g at *
  generalize (fun i j => if j = 10 then q_gs (row i 10) else emp) = sx at hR
  rw [hR]
  clear hR h
  generalize (fun (_ _ : Nat) => PS.nilp) = jx
  have hw := within_bd (v := w) (lo := 0) (hi := (N : Int) - 1) (by omega)
  have eW : W ((N : Int) - 1) = (N : Int) - 1 := W_id (by omega) (by omega)
  rw [eW]
  generalize hk : (q_within w 0 ((N : Int) - 1)).toNat = k
  have hkN : k < N := by omega
  have hgi : ∀ i j, j < 10 → q_gi (rwj (fun i j => q_shG g i j) sx jx i j) = q_shG g i j := fun i j hj => gi_rwj _ sx jx i j hj
  have hV : q_valP N (rwj (fun i j => q_shG g i j) sx jx) := val_rwj (shG_val g hN.1)
  have hz : ∀ i, q_gi (rwj (fun i j => q_shG g i j) sx jx i 7) = 0 := fun i => by rw [hgi i 7 (by omega)]; rfl
  have hS : ∀ {n : Nat} {p : Int}, n ≤ 10 → 0 ≤ p → p ≤ n → Std n (fun i j => q_gi (rwj (fun i j => q_shG g i j) sx jx i j)) p := fun h1 h2 h3 => std_rwj (shG_std g h1 h2 h3)
  have hP : ∀ {x y : Int}, (-1000000 ≤ x ∧ x ≤ 1000000) → (-1000000 ≤ y ∧ y ≤ 1000000) → q_hitP N (rwj (fun i j => q_shG g i j) sx jx) x y := fun h1 h2 => ⟨hV, ⟨h1, h2⟩, fun i _ => hz i⟩
  have hoff : ∀ i j, i < N → 3 ≤ j ∧ j ≤ 6 → -20000 ≤ q_off (rwj (fun i j => q_shG g i j) sx jx) (q_shG g i 1) j ∧ q_off (rwj (fun i j => q_shG g i j) sx jx) (q_shG g i 1) j ≤ 20000 := fun i j hi hj => by
    obtain ⟨p1, p2, _⟩ := par_bd g i
    have := off_bd (j := j) hj 10 _ (hS (n := N) (p := q_shG g i 1) hN.1 p1 (by show q_par g i ≤ _; omega))
    unfold q_off
    omega
  have hhit : ∀ x y, q_hit N (rwj (fun i j => q_shG g i j) sx jx) x y = hitF (fun i j => q_gi (rwj (fun i j => q_shG g i j) sx jx i j)) (rwj (fun i j => q_shG g i j) sx jx) x y N := fun _ _ => rfl
  rw [if_neg (by simp <;> omega), if_pos (q_dec_iff.2 (hP (by omega) (by omega)))]
  rw [if_neg (by
    rw [hhit, hit_none N (fun k hk => by
      simp only [hgi k 1 (by omega), hgi k 3 (by omega)]
      have := hoff k 3 hk (by omega)
      have := (shG_at g k).2.1
      omega)]
    decide), if_pos (by rw [(small_iff.2 (by omega) : q_small 1000000000 ((N : Int) - 1) = true)]; simp <;> omega), chk_true (by simp <;> omega)]
  obtain ⟨a2, a3, a4, a5, a6, _⟩ := shG_at g k
  obtain ⟨p1, p2, p3⟩ := par_bd g k
  by_cases c5 : q_shG g k 2 = 5
  · rw [if_pos (by simp [c5])]
  by_cases c6 : q_shG g k 2 = 6
  · rw [if_pos (by simp [c6])]
  by_cases co : q_shG g k 2 = 1 ∧ (q_shG g k 5 = 1 ∨ q_shG g k 6 = 1)
  · rw [if_pos (by obtain ⟨e1, e2 | e2⟩ := co <;> simp [e1, e2])]
  rw [if_neg (by
    intro hh
    have b5 : (q_shG g k 2 == 5) = false := by simpa using c5
    have b6 : (q_shG g k 2 == 6) = false := by simpa using c6
    rw [b5, b6] at hh
    apply co
    by_cases e1 : q_shG g k 2 = 1
    · refine ⟨e1, ?_⟩
      simp only [e1] at hh
      by_cases e2 : q_shG g k 5 = 1
      · exact .inl e2
      · right
        have b7 : (q_shG g k 5 == 1) = false := by simpa using e2
        rw [b7] at hh
        simpa using hh
    · have b8 : (q_shG g k 2 == 1) = false := by simpa using e1
      rw [b8] at hh
      simp at hh)]
  have e0 : q_shG g k 0 = (k : Int) + 1 := rfl
  rw [e0]
  have hf : q_find N (fun i j => q_gi (rwj (fun i j => q_shG g i j) sx jx i j)) ((k : Int) + 1) = k := find_at hkN (fun i hi => by simp only [hgi i 0 (by omega)]; show (i : Int) + 1 ≠ _; omega) (by simp only [hgi k 0 (by omega)]; rfl)
  have hat : ∀ j, j < 10 → q_at N (rwj (fun i j => q_shG g i j) sx jx) ((k : Int) + 1) j = q_shG g k j := fun j hj => by
    unfold q_at
    rw [hf, Int.toNat_natCast, hgi k j hj]
  have hcor : q_corP N (rwj (fun i j => q_shG g i j) sx jx) (q_shG g k 1) (q_shG g k 3) (q_shG g k 4) (q_shG g k 5) (q_shG g k 6) (q_shG g k 7) := ⟨⟨by omega, by omega, by omega, by omega, by show (-4000 : Int) ≤ 0; omega, by show (0 : Int) ≤ 4000; omega⟩, .inr ⟨⟨_, sx, jx, rfl⟩, hS hN.1 p1 (by show q_par g k ≤ _; omega), by omega, by omega, by omega, by omega⟩⟩
  have hcrs : q_crsP N (rwj (fun i j => q_shG g i j) sx jx) ((k : Int) + 1) := ⟨hV, by rw [hf]; omega, by rw [hat 1 (by omega), hat 3 (by omega), hat 4 (by omega), hat 5 (by omega), hat 6 (by omega), hat 7 (by omega)]; exact hcor⟩
  rw [if_pos (q_dec_iff.2 hcrs)]
  have hout : ∀ x y, q_ox (rwj (fun i j => q_shG g i j) sx jx) (q_shG g k 1) x y = x + q_off (rwj (fun i j => q_shG g i j) sx jx) (q_shG g k 1) 3 ∧ q_oy (rwj (fun i j => q_shG g i j) sx jx) (q_shG g k 1) x y = y + q_off (rwj (fun i j => q_shG g i j) sx jx) (q_shG g k 1) 4 := fun x y => by
    unfold q_ox q_oy q_off
    rw [out_flat 10 (q_shG g k 1) x y (hS (n := N) hN.1 p1 (by show q_par g k ≤ _; omega)) (fun i _ => hz i)]
    exact ⟨rfl, rfl⟩
  have e7 : q_shG g k 7 = 0 := rfl
  have hvx : ∀ c, q_vx N (rwj (fun i j => q_shG g i j) sx jx) ((k : Int) + 1) c = q_px (q_shG g k 3) (q_shG g k 5) c + q_off (rwj (fun i j => q_shG g i j) sx jx) (q_shG g k 1) 3 := fun c => by
    unfold q_vx q_cx
    rw [hat 1 (by omega), hat 3 (by omega), hat 4 (by omega), hat 5 (by omega), hat 6 (by omega), hat 7 (by omega), e7, tx0, ty0, (hout _ _).1]
  have hvy : ∀ c, q_vy N (rwj (fun i j => q_shG g i j) sx jx) ((k : Int) + 1) c = q_py (q_shG g k 4) (q_shG g k 6) c + q_off (rwj (fun i j => q_shG g i j) sx jx) (q_shG g k 1) 4 := fun c => by
    unfold q_vy q_cy
    rw [hat 1 (by omega), hat 3 (by omega), hat 4 (by omega), hat 5 (by omega), hat 6 (by omega), hat 7 (by omega), e7, tx0, ty0, (hout _ _).2]
  have mn : ∀ a b : Int, q_mn a b = min a b := fun a b => by unfold q_mn; by_cases h : b < a <;> simp [h] <;> omega
  have mx : ∀ a b : Int, q_mx a b = max a b := fun a b => by unfold q_mx; by_cases h : b > a <;> simp [h] <;> omega
  have o3 := hoff k 3 hkN (by omega)
  have o4 := hoff k 4 hkN (by omega)
  generalize ho3 : q_off (rwj (fun i j => q_shG g i j) sx jx) (q_shG g k 1) 3 = O3 at *
  generalize ho4 : q_off (rwj (fun i j => q_shG g i j) sx jx) (q_shG g k 1) 4 = O4 at *
  have m1 : q_mn4 (q_vx N (rwj (fun i j => q_shG g i j) sx jx) ((k : Int) + 1)) = q_shG g k 3 + O3 := by
    unfold q_mn4
    rw [hvx, hvx, hvx, hvx]
    simp only [q_px, mn]
    omega
  have m2 : q_mx4 (q_vx N (rwj (fun i j => q_shG g i j) sx jx) ((k : Int) + 1)) = q_shG g k 3 + q_shG g k 5 + O3 := by
    unfold q_mx4
    rw [hvx, hvx, hvx, hvx]
    simp only [q_px, mx]
    omega
  have m3 : q_mn4 (q_vy N (rwj (fun i j => q_shG g i j) sx jx) ((k : Int) + 1)) = q_shG g k 4 + O4 := by
    unfold q_mn4
    rw [hvy, hvy, hvy, hvy]
    simp only [q_py, mn]
    omega
  have m4 : q_mx4 (q_vy N (rwj (fun i j => q_shG g i j) sx jx) ((k : Int) + 1)) = q_shG g k 4 + q_shG g k 6 + O4 := by
    unfold q_mx4
    rw [hvy, hvy, hvy, hvy]
    simp only [q_py, mx]
    omega
  rw [m1, m2, m3, m4]
  have d5 : (q_shG g k 5).tdiv 2 = q_shG g k 5 / 2 := Int.tdiv_eq_ediv_of_nonneg (by omega)
  have d6 : (q_shG g k 6).tdiv 2 = q_shG g k 6 / 2 := Int.tdiv_eq_ediv_of_nonneg (by omega)
  rw [show q_shG g k 3 + q_shG g k 5 + O3 - (q_shG g k 3 + O3) = q_shG g k 5 by omega, show q_shG g k 4 + q_shG g k 6 + O4 - (q_shG g k 4 + O4) = q_shG g k 6 by omega, W_id (n := q_shG g k 5) (by omega) (by omega), W_id (n := q_shG g k 6) (by omega) (by omega), d5, d6, W_id (n := q_shG g k 5 / 2) (by omega) (by omega), W_id (n := q_shG g k 6 / 2) (by omega) (by omega), W_id (n := q_shG g k 3 + O3 + q_shG g k 5 / 2) (by omega) (by omega), W_id (n := q_shG g k 4 + O4 + q_shG g k 6 / 2) (by omega) (by omega)]
  rw [if_pos (q_dec_iff.2 (hP (by omega) (by omega)))]
  have fin : (k : Int) + 1 ≤ q_hit N (rwj (fun i j => q_shG g i j) sx jx) (q_shG g k 3 + O3 + q_shG g k 5 / 2) (q_shG g k 4 + O4 + q_shG g k 6 / 2) := by
    rw [hhit]
    refine hit_from (k := k) ?_ ?_ (fun i => ?_) N hkN
    · simp only [hgi k 2 (by omega)]
      exact fun h => h.elim c5 c6
    · simp only [hgi k 1 (by omega), hgi k 2 (by omega), hgi k 3 (by omega), hgi k 4 (by omega), hgi k 5 (by omega), hgi k 6 (by omega), ho3, ho4]
      rw [show q_shG g k 3 + O3 + q_shG g k 5 / 2 - O3 = q_shG g k 3 + q_shG g k 5 / 2 by omega, show q_shG g k 4 + O4 + q_shG g k 6 / 2 - O4 = q_shG g k 4 + q_shG g k 6 / 2 by omega]
      exact ins_mid a5.1 a6.1 co
    · simp only [hgi i 0 (by omega)]
      rfl
  rw [show decide (q_hit N (rwj (fun i j => q_shG g i j) sx jx) (q_shG g k 3 + O3 + q_shG g k 5 / 2) (q_shG g k 4 + O4 + q_shG g k 6 / 2) ≥ (k : Int) + 1) = true from by simpa using fin]
end Go.Proofs.YtfemkfodakfcmaaDoor.Sh
