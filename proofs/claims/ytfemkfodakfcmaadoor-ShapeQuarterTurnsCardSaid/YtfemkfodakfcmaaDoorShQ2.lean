import Derived.Test.YtfemkfodakfcmaaDoorShQ
namespace Go.Proofs.YtfemkfodakfcmaaDoor.Sh
open Go Go.RowKit Go.Proofs.YtfemkfodakfcmaaDoor.Ev Go.Proofs.Tryd
set_option maxRecDepth 100000
/-! ShapeQuarterTurns: the plain law -/
theorem sn0 : q_sn 0 = 0 := by kernel_rfl
theorem sn900 : q_sn 900 = 65536 := by kernel_rfl
theorem sn1800 : q_sn 1800 = 0 := by kernel_rfl
theorem sn2700 : q_sn 2700 = -65536 := by kernel_rfl
theorem tt0 (x y cx cy : Int) : q_tx x y cx cy 0 = x ∧ q_ty x y cx cy 0 = y := by
  unfold q_tx q_ty
  rw [sn0, show (0 : Int) + 900 = 900 from rfl, sn900, round17, round17]
  omega
theorem tt900 (x y cx cy : Int) : q_tx x y cx cy 900 = (cx + cy - 2 * y + 1) / 2 ∧ q_ty x y cx cy 900 = (cy - cx + 2 * x + 1) / 2 := by
  unfold q_tx q_ty
  rw [sn900, show (900 : Int) + 900 = 1800 from rfl, sn1800, round17, round17]
  omega
theorem tt1800 (x y cx cy : Int) : q_tx x y cx cy 1800 = cx - x ∧ q_ty x y cx cy 1800 = cy - y := by
  unfold q_tx q_ty
  rw [sn1800, show (1800 : Int) + 900 = 2700 from rfl, sn2700, round17, round17]
  omega
/-- A point of groups that are not turned is moved. -/
theorem out_move {n : Nat} {g : Nat → Nat → Int} : ∀ (k : Nat) (p : Int), Std n g p → (∀ i : Nat, (i : Int) < p → g i 7 = 0) → ∃ a b, ∀ x y, q_out g k p x y = (x + a, y + b) := by
  intro k
  induction k with
  | zero => intro p _ _; exact ⟨0, 0, fun x y => by unfold q_out; rw [Int.add_zero, Int.add_zero]⟩
  | succ k ih =>
    intro p hS hz
    by_cases h0 : p = 0
    · exact ⟨0, 0, fun x y => by unfold q_out; rw [if_pos h0, Int.add_zero, Int.add_zero]⟩
    · obtain ⟨hn, hp0, hpn, hg⟩ := hS
      have hi : (((p - 1).toNat : Nat) : Int) = p - 1 := Int.toNat_of_nonneg (by omega)
      obtain ⟨_, g1, g1', _⟩ := hg (p - 1).toNat (by omega)
      obtain ⟨a, b, hab⟩ := ih _ ⟨hn, g1, by omega, fun i h => hg i (by omega)⟩ (fun i h => hz i (by omega))
      refine ⟨g (p - 1).toNat 3 + a, g (p - 1).toNat 4 + b, fun x y => ?_⟩
      unfold q_out
      rw [if_neg h0, hz (p - 1).toNat (by omega), (tt0 _ _ _ _).1, (tt0 _ _ _ _).2, hab, Int.add_assoc, Int.add_assoc]
/-- Only what is ahead counts. -/
theorem out_congr {n : Nat} {g g' : Nat → Nat → Int} : ∀ (k : Nat) (p x y : Int), Std n g p → (∀ i : Nat, (i : Int) < p → ∀ j, j < 10 → g' i j = g i j) → q_out g' k p x y = q_out g k p x y := by
  intro k
  induction k with
  | zero => intro p x y _ _; rfl
  | succ k ih =>
    intro p x y hS he
    unfold q_out
    by_cases h0 : p = 0
    · rw [if_pos h0, if_pos h0]
    · rw [if_neg h0, if_neg h0]
      obtain ⟨hn, hp0, hpn, hg⟩ := hS
      have hi : (((p - 1).toNat : Nat) : Int) = p - 1 := Int.toNat_of_nonneg (by omega)
      obtain ⟨_, g1, g1', _⟩ := hg (p - 1).toNat (by omega)
      have e := he (p - 1).toNat (by omega)
      rw [e 1 (by omega), e 3 (by omega), e 4 (by omega), e 5 (by omega), e 6 (by omega), e 7 (by omega)]
      exact ih _ _ _ ⟨hn, g1, by omega, fun i h => hg i (by omega)⟩ (fun i h => he i (by omega))
/-- One shape turned. -/
abbrev turnG (g : Nat → Nat → Int) (k : Nat) (T : Int) : Nat → Nat → Int := fun i j => if i = k ∧ j = 7 then T else g i j
theorem turnG_ne (g : Nat → Nat → Int) (k : Nat) (T : Int) (i j : Nat) (h : j ≠ 7) : turnG g k T i j = g i j := if_neg (fun e => h e.2)
theorem turnG_7 (g : Nat → Nat → Int) (k : Nat) (T : Int) (i : Nat) : turnG g k T i 7 = if i = k then T else g i 7 := by
  unfold turnG
  by_cases h : i = k <;> simp [h]
theorem std_turn {n : Nat} {g : Nat → Nat → Int} {p : Int} (k : Nat) {T : Int} (hT : 0 ≤ T ∧ T < 3600) (h : Std n g p) : Std n (turnG g k T) p := ⟨h.1, h.2.1, h.2.2.1, fun i hi => by
  obtain ⟨a0, a1, a2, a3, a4⟩ := h.2.2.2 i hi
  rw [turnG_ne g k T i 0 (by omega), turnG_ne g k T i 1 (by omega), turnG_7]
  refine ⟨a0, a1, a2, fun j h3 h6 => by rw [turnG_ne g k T i j (by omega)]; exact a3 j h3 h6, ?_⟩
  split
  · omega
  · exact a4⟩
theorem grp_turn {g : Nat → Nat → Int} {p : Int} (k : Nat) {T : Int} (h : Grp g p) : Grp (turnG g k T) p := ⟨fun i hi => by rw [turnG_ne g k T i 1 (by omega), turnG_ne g k T _ 2 (by omega)]; exact h.1 i hi, by rw [turnG_ne g k T _ 2 (by omega)]; exact h.2⟩
theorem val_turn {n : Nat} {g : Nat → Nat → Int} (k : Nat) {T : Int} (hT : 0 ≤ T ∧ T < 3600) (h : Val n g) : Val n (turnG g k T) := by
  refine ⟨h.1, fun i hi => ?_, fun i q hiq hq => ?_, fun q hq => ?_⟩
  · obtain ⟨a2, a0, a1, a3, a4, a5, a6, a7, a8, a9, a10⟩ := h.2.1 i hi
    rw [turnG_7, turnG_ne g k T i 0 (by omega), turnG_ne g k T i 1 (by omega), turnG_ne g k T i 2 (by omega), turnG_ne g k T i 3 (by omega), turnG_ne g k T i 4 (by omega), turnG_ne g k T i 5 (by omega), turnG_ne g k T i 6 (by omega), turnG_ne g k T i 8 (by omega), turnG_ne g k T i 9 (by omega)]
    refine ⟨a2, a0, a1, a3, a4, a5, a6, ?_, a8, a9, a10⟩
    split
    · exact hT
    · exact a7
  · rw [turnG_ne g k T i 0 (by omega), turnG_ne g k T q 0 (by omega)]
    exact h.2.2.1 i q hiq hq
  · rw [turnG_ne g k T q 1 (by omega)]
    exact ⟨std_turn k hT (h.2.2.2 q hq).1, grp_turn k (h.2.2.2 q hq).2⟩
theorem putq_rwj (g : Nat → Nat → Int) (sx : Nat → Nat → ByteArray) (jx : Nat → Nat → PS) (k : Nat) (T : Int) : putRow (rwj g sx jx) k 7 [.int .i64 T] = rwj (turnG g k T) sx jx := by
  funext i j
  unfold putRow rwj turnG
  by_cases h : i = k ∧ j = 7
  · obtain ⟨rfl, rfl⟩ := h
    simp
  · rw [if_neg (by simp <;> omega)]
    simp only [h, if_false]
/-- The corners of the k-th of drawn shapes, which is turned by T. -/
theorem qt_cor (g : Nat → Nat → Int) (sx : Nat → Nat → ByteArray) (jx : Nat → Nat → PS) {N k : Nat} (hN : N ≤ 10) (hk : k < N) : ∃ a b : Int, ∀ T : Int, 0 ≤ T ∧ T < 3600 → q_crsP N (rwj (turnG (fun i j => q_shG g i j) k T) sx jx) ((k : Int) + 1) ∧
    ∀ c, q_vx N (rwj (turnG (fun i j => q_shG g i j) k T) sx jx) ((k : Int) + 1) c = q_tx (q_px (q_shG g k 3) (q_shG g k 5) c) (q_py (q_shG g k 4) (q_shG g k 6) c) (2 * q_shG g k 3 + q_shG g k 5) (2 * q_shG g k 4 + q_shG g k 6) T + a ∧ q_vy N (rwj (turnG (fun i j => q_shG g i j) k T) sx jx) ((k : Int) + 1) c = q_ty (q_px (q_shG g k 3) (q_shG g k 5) c) (q_py (q_shG g k 4) (q_shG g k 6) c) (2 * q_shG g k 3 + q_shG g k 5) (2 * q_shG g k 4 + q_shG g k 6) T + b := by
  obtain ⟨p1, p2, _⟩ := par_bd g k
  have hS0 : Std N (fun i j => q_shG g i j) (q_shG g k 1) := shG_std g hN p1 (by show q_par g k ≤ _; omega)
  obtain ⟨a, b, hab⟩ := out_move 10 (q_shG g k 1) hS0 (fun i _ => rfl)
  refine ⟨a, b, fun T hT => ?_⟩
  obtain ⟨a2, a3, a4, a5, a6, _⟩ := shG_at g k
  have hgi : ∀ i j, j < 10 → q_gi (rwj (turnG (fun i j => q_shG g i j) k T) sx jx i j) = turnG (fun i j => q_shG g i j) k T i j := fun i j hj => gi_rwj _ sx jx i j hj
  have hf : q_find N (fun i j => q_gi (rwj (turnG (fun i j => q_shG g i j) k T) sx jx i j)) ((k : Int) + 1) = k := find_at hk (fun i hi => by simp only [hgi i 0 (by omega), turnG_ne _ k T i 0 (by omega)]; show (i : Int) + 1 ≠ _; omega) (by simp only [hgi k 0 (by omega), turnG_ne _ k T k 0 (by omega)]; rfl)
  have hat : ∀ j, j < 10 → j ≠ 7 → q_at N (rwj (turnG (fun i j => q_shG g i j) k T) sx jx) ((k : Int) + 1) j = q_shG g k j := fun j hj h7 => by
    unfold q_at
    rw [hf, Int.toNat_natCast, hgi k j hj, turnG_ne _ k T k j h7]
  have hat7 : q_at N (rwj (turnG (fun i j => q_shG g i j) k T) sx jx) ((k : Int) + 1) 7 = T := by
    unfold q_at
    rw [hf, Int.toNat_natCast, hgi k 7 (by omega), turnG_7, if_pos rfl]
  have hS : Std N (fun i j => q_gi (rwj (turnG (fun i j => q_shG g i j) k T) sx jx i j)) (q_shG g k 1) := std_rwj (std_turn k hT hS0)
  have hout : ∀ x y, q_ox (rwj (turnG (fun i j => q_shG g i j) k T) sx jx) (q_shG g k 1) x y = x + a ∧ q_oy (rwj (turnG (fun i j => q_shG g i j) k T) sx jx) (q_shG g k 1) x y = y + b := fun x y => by
    unfold q_ox q_oy
    have e := out_congr (g := fun i j => q_shG g i j) (g' := fun i j => q_gi (rwj (turnG (fun i j => q_shG g i j) k T) sx jx i j)) 10 (q_shG g k 1) x y hS0 (fun i hi j hj => by
      simp only [hgi i j hj]
      have hik : i ≠ k := by
        intro e
        subst e
        have : q_shG g i 1 ≤ (i : Int) := p2
        omega
      exact if_neg (fun e => hik e.1))
    rw [e, hab]
    exact ⟨rfl, rfl⟩
  refine ⟨⟨val_rwj (val_turn k hT (shG_val g hN)), by rw [hf]; omega, ?_⟩, fun c => ?_⟩
  · rw [hat 1 (by omega) (by omega), hat 3 (by omega) (by omega), hat 4 (by omega) (by omega), hat 5 (by omega) (by omega), hat 6 (by omega) (by omega), hat7]
    exact ⟨⟨by omega, by omega, by omega, by omega, by omega, by omega⟩, .inr ⟨⟨_, sx, jx, rfl⟩, hS, by omega, by omega, by omega, by omega⟩⟩
  · unfold q_vx q_vy q_cx q_cy
    rw [hat 1 (by omega) (by omega), hat 3 (by omega) (by omega), hat 4 (by omega) (by omega), hat 5 (by omega) (by omega), hat 6 (by omega) (by omega), hat7]
    exact ⟨(hout _ _).1, (hout _ _).2⟩
theorem pt_ok {x x' y y' : Int} (hx : x = x') (hy : y = y') : ¬ ((!(x == x' && (y == y' && true))) = true) := by
  subst hx hy
  simp
theorem sd_ok {A B C D : Int} (hB : -10000 ≤ B ∧ B ≤ 10000) (h1 : A = -B) (h2 : C = D) : ¬ (bif W A != W ((0 : Int) - W B) then true else W C != W D) = true := by
  subst h1 h2
  rw [W_id (n := B) (by omega) (by omega), show (0 : Int) - B = -B by omega]
  simp
theorem qt_eq0 (row : Nat → Nat → PS) (w : Int) (h : q_isRw row) : callF prog gl noD (0 + 6) Oj 0 4 [.one (.view 0 12 row), i64 w] [] = some (bl true, []) := by
  rw [qt_raw0, if_pos (q_dec_iff.2 h)]
set_option linter.unusedSimpArgs false in
theorem qt_eq (q : Nat) (row : Nat → Nat → PS) (w : Int) (h : q_isRw row) : callF prog gl noD (0 + 6) Oj 0 4 [.one (.view (q + 1) 12 row), i64 w] [] = some (bl true, []) := by
  rw [qt_raw, if_pos (q_dec_iff.2 h)]
  have hN : q_ten (q + 1) ≤ 10 ∧ 1 ≤ q_ten (q + 1) := by unfold q_ten; split <;> omega
  have hR : q_shR row = rwj (fun i j => q_shG (fun i j => q_gi (row i j)) i j) (fun i j => if j = 10 then q_gs (row i 10) else emp) (fun _ _ => .nilp) := rfl
  generalize q_ten (q + 1) = N at *
  generalize (fun i j => q_gi (row i j)) = g at *
  generalize (fun i j => if j = 10 then q_gs (row i 10) else emp) = sx at hR
  rw [hR]
  clear hR h
  generalize (fun (_ _ : Nat) => PS.nilp) = jx
  have hw := within_bd (v := w) (lo := 0) (hi := (N : Int) - 1) (by omega)
  have eW : W ((N : Int) - 1) = (N : Int) - 1 := W_id (by omega) (by omega)
  rw [eW]
  obtain ⟨k, hk⟩ : ∃ k : Nat, q_within w 0 ((N : Int) - 1) = (k : Int) := ⟨(q_within w 0 ((N : Int) - 1)).toNat, by omega⟩
  rw [hk] at hw ⊢
  have hkN : k < N := by omega
  rw [Int.toNat_natCast, W_id (n := (k : Int) + 1) (by omega) (by omega), putq_rwj, putq_rwj]
  have e0 : rwj (fun i j => q_shG g i j) sx jx = rwj (turnG (fun i j => q_shG g i j) k 0) sx jx := by
    congr 1
    funext i j
    unfold turnG
    split
    · rename_i e
      obtain ⟨_, rfl⟩ := e
      rfl
    · rfl
  rw [e0]
  obtain ⟨a, b, hab⟩ := qt_cor g sx jx hN.1 hkN
  obtain ⟨c0, v0⟩ := hab 0 (by omega)
  obtain ⟨c1, v1⟩ := hab 900 (by omega)
  obtain ⟨c2, v2⟩ := hab 1800 (by omega)
  obtain ⟨a2, a3, a4, a5, a6, _⟩ := shG_at g k
  generalize rwj (turnG (fun i j => q_shG g i j) k 0) sx jx = R0 at *
  generalize rwj (turnG (fun i j => q_shG g i j) k 900) sx jx = R1 at *
  generalize rwj (turnG (fun i j => q_shG g i j) k 1800) sx jx = R2 at *
  generalize q_shG g k 3 = X at *
  generalize q_shG g k 4 = Y at *
  generalize q_shG g k 5 = Wd at *
  generalize q_shG g k 6 = Ht at *
  simp only [(tt0 _ _ _ _).1, (tt0 _ _ _ _).2] at v0
  simp only [(tt900 _ _ _ _).1, (tt900 _ _ _ _).2] at v1
  simp only [(tt1800 _ _ _ _).1, (tt1800 _ _ _ _).2] at v2
  rw [if_neg (by simp <;> omega), if_pos (by rw [(small_iff.2 (by omega) : q_small 1000000000 ((N : Int) - 1) = true)]; simp <;> omega), if_pos (q_dec_iff.2 c0), if_pos (by simp <;> omega), chk_true (by simp <;> omega), if_pos (by simp <;> omega), if_pos (q_dec_iff.2 c2), if_pos (by simp <;> omega), chk_true (by simp <;> omega), if_pos (by simp <;> omega), if_pos (q_dec_iff.2 c1)]
  rw [if_neg (pt_ok (by rw [(v2 0).1, (v0 2).1]; simp only [q_px, q_py]; omega) (by rw [(v2 0).2, (v0 2).2]; simp only [q_px, q_py]; omega))]
  rw [if_neg (sd_ok (by rw [(v0 1).2, (v0 0).2]; simp only [q_px, q_py]; omega) (by rw [(v1 1).1, (v1 0).1, (v0 1).2, (v0 0).2]; simp only [q_px, q_py]; omega) (by rw [(v1 1).2, (v1 0).2, (v0 1).1, (v0 0).1]; simp only [q_px, q_py]; omega))]
  rw [if_neg (pt_ok (by rw [(v2 1).1, (v0 3).1]; simp only [q_px, q_py]; omega) (by rw [(v2 1).2, (v0 3).2]; simp only [q_px, q_py]; omega))]
  rw [if_neg (sd_ok (by rw [(v0 2).2, (v0 1).2]; simp only [q_px, q_py]; omega) (by rw [(v1 2).1, (v1 1).1, (v0 2).2, (v0 1).2]; simp only [q_px, q_py]; omega) (by rw [(v1 2).2, (v1 1).2, (v0 2).1, (v0 1).1]; simp only [q_px, q_py]; omega))]
  rw [if_neg (pt_ok (by rw [(v2 2).1, (v0 0).1]; simp only [q_px, q_py]; omega) (by rw [(v2 2).2, (v0 0).2]; simp only [q_px, q_py]; omega))]
  rw [if_neg (sd_ok (by rw [(v0 3).2, (v0 2).2]; simp only [q_px, q_py]; omega) (by rw [(v1 3).1, (v1 2).1, (v0 3).2, (v0 2).2]; simp only [q_px, q_py]; omega) (by rw [(v1 3).2, (v1 2).2, (v0 3).1, (v0 2).1]; simp only [q_px, q_py]; omega))]
  rw [if_neg (pt_ok (by rw [(v2 3).1, (v0 1).1]; simp only [q_px, q_py]; omega) (by rw [(v2 3).2, (v0 1).2]; simp only [q_px, q_py]; omega))]
  rw [if_neg (sd_ok (by rw [(v0 0).2, (v0 3).2]; simp only [q_px, q_py]; omega) (by rw [(v1 0).1, (v1 3).1, (v0 0).2, (v0 3).2]; simp only [q_px, q_py]; omega) (by rw [(v1 0).2, (v1 3).2, (v0 0).1, (v0 3).1]; simp only [q_px, q_py]; omega))]
end Go.Proofs.YtfemkfodakfcmaaDoor.Sh
