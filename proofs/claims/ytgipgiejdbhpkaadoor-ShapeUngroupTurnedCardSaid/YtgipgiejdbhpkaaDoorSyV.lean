import Derived.Test.YtgipgiejdbhpkaaDoorSyE
import Derived.Test.YtgipgiejdbhpkaaDoorSyT
import Derived.Test.YtgipgiejdbhpkaaDoorSyC
namespace Go.Proofs.YtgipgiejdbhpkaaDoor.Sh
open Go Go.RowKit Go.Proofs.YtgipgiejdbhpkaaDoor.Ev Go.Proofs.Tryd
set_option maxRecDepth 1000000
set_option linter.unusedVariables false
/-! what was in a turned group stays, nearly -/
theorem near {cx cy dx dy gX gY Gx Gy w xp X' x1 y1 ax bx c1 s1 c2 s2 c12 s12 : Int} (hdx : -1500 ≤ dx ∧ dx ≤ 1500) (hdy : -1500 ≤ dy ∧ dy ≤ 1500) (hc : -65536 ≤ c2 ∧ c2 ≤ 65536) (hs : -65536 ≤ s2 ∧ s2 ≤ 65536)
    (hF : -1966080 ≤ c1 * c2 - s1 * s2 - 65536 * c12 ∧ c1 * c2 - s1 * s2 - 65536 * c12 ≤ 1966080) (hG : -1966080 ≤ s1 * c2 + c1 * s2 - 65536 * s12 ∧ s1 * c2 + c1 * s2 - 65536 * s12 ≤ 1966080)
    (e1 : -65536 ≤ 131072 * x1 - (cx * 65536 + dx * c1 - dy * s1) ∧ 131072 * x1 - (cx * 65536 + dx * c1 - dy * s1) ≤ 65536)
    (e2 : -65536 ≤ 131072 * y1 - (cy * 65536 + dx * s1 + dy * c1) ∧ 131072 * y1 - (cy * 65536 + dx * s1 + dy * c1) ≤ 65536)
    (e3 : -65536 ≤ 131072 * ax - (Gx * 65536 + (2 * (x1 + gX) - Gx) * c2 - (2 * (y1 + gY) - Gy) * s2) ∧ 131072 * ax - (Gx * 65536 + (2 * (x1 + gX) - Gx) * c2 - (2 * (y1 + gY) - Gy) * s2) ≤ 65536)
    (e4 : -65536 ≤ 131072 * xp - (2 * Gx * 65536 + (2 * (cx + 2 * gX) - 2 * Gx) * c2 - (2 * (cy + 2 * gY) - 2 * Gy) * s2) ∧ 131072 * xp - (2 * Gx * 65536 + (2 * (cx + 2 * gX) - 2 * Gx) * c2 - (2 * (cy + 2 * gY) - 2 * Gy) * s2) ≤ 65536)
    (e5 : 0 ≤ 2 * X' - (xp - w) ∧ 2 * X' - (xp - w) ≤ 1)
    (e6 : -65536 ≤ 131072 * bx - ((2 * X' + w) * 65536 + dx * c12 - dy * s12) ∧ 131072 * bx - ((2 * X' + w) * 65536 + dx * c12 - dy * s12) ≤ 65536) :
    -6 ≤ ax - bx ∧ ax - bx ≤ 6 := by
  have m1 := mul_bd (by omega) (by omega) e1 hc
  have m2 := mul_bd (by omega) (by omega) e2 hs
  have m3 := mul_bd (by omega) (by omega) hdx hF
  have m4 := mul_bd (by omega) (by omega) hdy hG
  have i1 : (131072 * x1 - (cx * 65536 + dx * c1 - dy * s1)) * c2 = 131072 * (x1 * c2) - 65536 * (cx * c2) - dx * (c1 * c2) + dy * (s1 * c2) := by grind
  have i2 : (131072 * y1 - (cy * 65536 + dx * s1 + dy * c1)) * s2 = 131072 * (y1 * s2) - 65536 * (cy * s2) - dx * (s1 * s2) - dy * (c1 * s2) := by grind
  have i3 : dx * (c1 * c2 - s1 * s2 - 65536 * c12) = dx * (c1 * c2) - dx * (s1 * s2) - 65536 * (dx * c12) := by grind
  have i4 : dy * (s1 * c2 + c1 * s2 - 65536 * s12) = dy * (s1 * c2) + dy * (c1 * s2) - 65536 * (dy * s12) := by grind
  have i5 : Gx * 65536 + (2 * (x1 + gX) - Gx) * c2 - (2 * (y1 + gY) - Gy) * s2 = 65536 * Gx + 2 * (x1 * c2) + 2 * (gX * c2) - Gx * c2 - 2 * (y1 * s2) - 2 * (gY * s2) + Gy * s2 := by grind
  have i6 : 2 * Gx * 65536 + (2 * (cx + 2 * gX) - 2 * Gx) * c2 - (2 * (cy + 2 * gY) - 2 * Gy) * s2 = 131072 * Gx + 2 * (cx * c2) + 4 * (gX * c2) - 2 * (Gx * c2) - 2 * (cy * s2) - 4 * (gY * s2) + 2 * (Gy * s2) := by grind
  rw [i1] at m1
  rw [i2] at m2
  rw [i3] at m3
  rw [i4] at m4
  rw [i5] at e3
  rw [i6] at e4
  clear i1 i2 i3 i4 i5 i6 e1 e2 hF hG hdx hdy hc hs
  generalize x1 * c2 = p1 at *
  generalize y1 * s2 = p2 at *
  generalize gX * c2 = p3 at *
  generalize gY * s2 = p4 at *
  generalize Gx * c2 = p5 at *
  generalize Gy * s2 = p6 at *
  generalize cx * c2 = p7 at *
  generalize cy * s2 = p8 at *
  generalize dx * (c1 * c2) = z1 at *
  generalize dx * (s1 * s2) = z2 at *
  generalize dy * (s1 * c2) = z3 at *
  generalize dy * (c1 * s2) = z4 at *
  generalize dx * c12 = z5 at *
  generalize dy * s12 = z6 at *
  obtain ⟨E1, f1⟩ : ∃ E, E = 131072 * p1 - 65536 * p7 - z1 + z3 := ⟨_, rfl⟩
  obtain ⟨E2, f2⟩ : ∃ E, E = 131072 * p2 - 65536 * p8 - z2 - z4 := ⟨_, rfl⟩
  obtain ⟨E3, f3⟩ : ∃ E, E = z1 - z2 - 65536 * z5 := ⟨_, rfl⟩
  obtain ⟨E4, f4⟩ : ∃ E, E = z3 + z4 - 65536 * z6 := ⟨_, rfl⟩
  obtain ⟨E5, f5⟩ : ∃ E, E = 131072 * ax - (65536 * Gx + 2 * p1 + 2 * p3 - p5 - 2 * p2 - 2 * p4 + p6) := ⟨_, rfl⟩
  obtain ⟨E6, f6⟩ : ∃ E, E = 131072 * xp - (131072 * Gx + 2 * p7 + 4 * p3 - 2 * p5 - 2 * p8 - 4 * p4 + 2 * p6) := ⟨_, rfl⟩
  obtain ⟨E7, f7⟩ : ∃ E, E = 2 * X' - (xp - w) := ⟨_, rfl⟩
  obtain ⟨E8, f8⟩ : ∃ E, E = 131072 * bx - ((2 * X' + w) * 65536 + z5 - z6) := ⟨_, rfl⟩
  rw [← f1] at m1
  rw [← f2] at m2
  rw [← f3] at m3
  rw [← f4] at m4
  rw [← f5] at e3
  rw [← f6] at e4
  rw [← f7] at e5
  rw [← f8] at e6
  have main : 8589934592 * (ax - bx) = E1 - E2 + E3 - E4 + 65536 * E5 - 32768 * E6 - 4294967296 * E7 - 65536 * E8 := by
    subst f1 f2 f3 f4 f5 f6 f7 f8
    omega
  clear f1 f2 f3 f4 f5 f6 f7 f8
  generalize ax - bx = d at *
  omega
theorem r17 (z : Int) : -65536 ≤ 131072 * q_round z 131072 - z ∧ 131072 * q_round z 131072 - z ≤ 65536 := by
  have : q_round z 131072 = (2 * z + 131072) / 262144 := rfl
  rw [this]
  omega
theorem r2 (z : Int) : 0 ≤ 2 * q_round z 2 - z ∧ 2 * q_round z 2 - z ≤ 1 := by
  have : q_round z 2 = (2 * z + 2) / 4 := rfl
  rw [this]
  omega
/-- The corner's place: 0 .. 3 clockwise. -/
theorem near_xy (X Y Wd Ht t1 gX gY gW gH t2 x y : Int) (hW : 0 ≤ Wd ∧ Wd ≤ 1500) (hH : 0 ≤ Ht ∧ Ht ≤ 1500) (hx : x = X ∨ x = X + Wd) (hy : y = Y ∨ y = Y + Ht) (T X' Y' : Int) (hT : T % 3600 = (t1 + t2) % 3600)
    (hX : 0 ≤ 2 * X' - (q_tx (2 * (X + gX) + Wd) (2 * (Y + gY) + Ht) (2 * (2 * gX + gW)) (2 * (2 * gY + gH)) t2 - Wd) ∧ 2 * X' - (q_tx (2 * (X + gX) + Wd) (2 * (Y + gY) + Ht) (2 * (2 * gX + gW)) (2 * (2 * gY + gH)) t2 - Wd) ≤ 1)
    (hY : 0 ≤ 2 * Y' - (q_ty (2 * (X + gX) + Wd) (2 * (Y + gY) + Ht) (2 * (2 * gX + gW)) (2 * (2 * gY + gH)) t2 - Ht) ∧ 2 * Y' - (q_ty (2 * (X + gX) + Wd) (2 * (Y + gY) + Ht) (2 * (2 * gX + gW)) (2 * (2 * gY + gH)) t2 - Ht) ≤ 1) :
    (-6 ≤ q_tx (q_tx x y (2 * X + Wd) (2 * Y + Ht) t1 + gX) (q_ty x y (2 * X + Wd) (2 * Y + Ht) t1 + gY) (2 * gX + gW) (2 * gY + gH) t2 - q_tx (x - X + X') (y - Y + Y') (2 * X' + Wd) (2 * Y' + Ht) T ∧ q_tx (q_tx x y (2 * X + Wd) (2 * Y + Ht) t1 + gX) (q_ty x y (2 * X + Wd) (2 * Y + Ht) t1 + gY) (2 * gX + gW) (2 * gY + gH) t2 - q_tx (x - X + X') (y - Y + Y') (2 * X' + Wd) (2 * Y' + Ht) T ≤ 6) ∧
    (-6 ≤ q_ty (q_tx x y (2 * X + Wd) (2 * Y + Ht) t1 + gX) (q_ty x y (2 * X + Wd) (2 * Y + Ht) t1 + gY) (2 * gX + gW) (2 * gY + gH) t2 - q_ty (x - X + X') (y - Y + Y') (2 * X' + Wd) (2 * Y' + Ht) T ∧ q_ty (q_tx x y (2 * X + Wd) (2 * Y + Ht) t1 + gX) (q_ty x y (2 * X + Wd) (2 * Y + Ht) t1 + gY) (2 * gX + gW) (2 * gY + gH) t2 - q_ty (x - X + X') (y - Y + Y') (2 * X' + Wd) (2 * Y' + Ht) T ≤ 6) := by
  have a1 := sn_add t1 t2
  have a2 := sn_add2 t1 t2
  rw [← sn_per (t := T) (u := t1 + t2) hT] at a2
  rw [← sn_per (t := T + 900) (u := t1 + t2 + 900) (by omega)] at a1
  have ex1 : 2 * x - (2 * X + Wd) = 2 * (x - X + X') - (2 * X' + Wd) := by omega
  have ey1 : 2 * y - (2 * Y + Ht) = 2 * (y - Y + Y') - (2 * Y' + Ht) := by omega
  have hdx : -1500 ≤ 2 * (x - X + X') - (2 * X' + Wd) ∧ 2 * (x - X + X') - (2 * X' + Wd) ≤ 1500 := by omega
  have hdy : -1500 ≤ 2 * (y - Y + Y') - (2 * Y' + Ht) ∧ 2 * (y - Y + Y') - (2 * Y' + Ht) ≤ 1500 := by omega
  have b1 := sn_b2 t2
  have b2 := sn_b2 (t2 + 900)
  unfold q_tx q_ty at *
  rw [ex1, ey1]
  generalize 2 * (x - X + X') - (2 * X' + Wd) = dx at *
  generalize 2 * (y - Y + Y') - (2 * Y' + Ht) = dy at *
  generalize q_sn t1 = s1 at *
  generalize q_sn (t1 + 900) = c1 at *
  generalize q_sn t2 = s2 at *
  generalize q_sn (t2 + 900) = c2 at *
  generalize q_sn T = s12 at *
  generalize q_sn (T + 900) = c12 at *
  have p1 := r17 ((2 * X + Wd) * 65536 + dx * c1 - dy * s1)
  have p2 := r17 ((2 * Y + Ht) * 65536 + dx * s1 + dy * c1)
  generalize q_round ((2 * X + Wd) * 65536 + dx * c1 - dy * s1) 131072 = x1 at *
  generalize q_round ((2 * Y + Ht) * 65536 + dx * s1 + dy * c1) 131072 = y1 at *
  have p3 := r17 (2 * (2 * gX + gW) * 65536 + (2 * (2 * (X + gX) + Wd) - 2 * (2 * gX + gW)) * c2 - (2 * (2 * (Y + gY) + Ht) - 2 * (2 * gY + gH)) * s2)
  have p4 := r17 (2 * (2 * gY + gH) * 65536 + (2 * (2 * (X + gX) + Wd) - 2 * (2 * gX + gW)) * s2 + (2 * (2 * (Y + gY) + Ht) - 2 * (2 * gY + gH)) * c2)
  generalize q_round (2 * (2 * gX + gW) * 65536 + (2 * (2 * (X + gX) + Wd) - 2 * (2 * gX + gW)) * c2 - (2 * (2 * (Y + gY) + Ht) - 2 * (2 * gY + gH)) * s2) 131072 = xp at *
  generalize q_round (2 * (2 * gY + gH) * 65536 + (2 * (2 * (X + gX) + Wd) - 2 * (2 * gX + gW)) * s2 + (2 * (2 * (Y + gY) + Ht) - 2 * (2 * gY + gH)) * c2) 131072 = yp at *
  have p5 := r17 ((2 * gX + gW) * 65536 + (2 * (x1 + gX) - (2 * gX + gW)) * c2 - (2 * (y1 + gY) - (2 * gY + gH)) * s2)
  have p6 := r17 ((2 * gY + gH) * 65536 + (2 * (x1 + gX) - (2 * gX + gW)) * s2 + (2 * (y1 + gY) - (2 * gY + gH)) * c2)
  have p7 := r17 ((2 * X' + Wd) * 65536 + dx * c12 - dy * s12)
  have p8 := r17 ((2 * Y' + Ht) * 65536 + dx * s12 + dy * c12)
  rw [show 2 * (X + gX) + Wd = 2 * X + Wd + 2 * gX by omega, show 2 * (Y + gY) + Ht = 2 * Y + Ht + 2 * gY by omega] at p3 p4
  generalize 2 * X + Wd = cx at *
  generalize 2 * Y + Ht = cy at *
  generalize 2 * gX + gW = Gx at *
  generalize 2 * gY + gH = Gy at *
  refine ⟨near hdx hdy b2 b1 a1 a2 p1 p2 p5 p3 hX p7, ?_⟩
  have n1 : ∀ u v : Int, -u * v = -(u * v) := fun u v => Int.neg_mul u v
  refine near (cx := cy) (cy := -cx) (dx := dy) (dy := -dx) (gX := gY) (gY := -gX) (Gx := Gy) (Gy := -Gx) (x1 := y1) (y1 := -x1) (w := Ht) (xp := yp) (X' := Y') hdy (by omega) b2 b1 a1 a2 ?_ ?_ ?_ ?_ hY ?_
  · simp only [Int.neg_mul]; omega
  · simp only [Int.neg_mul]; omega
  · rw [show 2 * (-x1 + -gX) - -Gx = -(2 * (x1 + gX) - Gx) by omega]; simp only [Int.neg_mul]; omega
  · rw [show 2 * (-cx + 2 * -gX) - 2 * -Gx = -(2 * (cx + 2 * gX) - 2 * Gx) by omega]; simp only [Int.neg_mul]; omega
  · simp only [Int.neg_mul]; omega
/-! the plain law: items, checks, corners -/
theorem tx_bd4 {x y cx cy t C D : Int} (hD : 0 ≤ D) (hx : -D ≤ 2 * x - cx ∧ 2 * x - cx ≤ D) (hy : -D ≤ 2 * y - cy ∧ 2 * y - cy ≤ D) (hcx : -C ≤ cx ∧ cx ≤ C) (hcy : -C ≤ cy ∧ cy ≤ C) : (-(C + 2 * D + 1) ≤ 2 * q_tx x y cx cy t ∧ 2 * q_tx x y cx cy t ≤ C + 2 * D + 1) ∧ -(C + 2 * D + 1) ≤ 2 * q_ty x y cx cy t ∧ 2 * q_ty x y cx cy t ≤ C + 2 * D + 1 := by
  unfold q_tx q_ty
  have s1 := sn_b2 t
  have s2 := sn_b2 (t + 900)
  have b1 := mul_bd (by omega) (by omega) hx s1
  have b2 := mul_bd (by omega) (by omega) hx s2
  have b3 := mul_bd (by omega) (by omega) hy s1
  have b4 := mul_bd (by omega) (by omega) hy s2
  generalize (2 * x - cx) * q_sn t = p1 at *
  generalize (2 * x - cx) * q_sn (t + 900) = p2 at *
  generalize (2 * y - cy) * q_sn t = p3 at *
  generalize (2 * y - cy) * q_sn (t + 900) = p4 at *
  have e1 := r17 (cx * 65536 + p2 - p3)
  have e2 := r17 (cy * 65536 + p1 + p4)
  omega
theorem tx_zero (x y cx cy : Int) : q_tx x y cx cy 0 = x ∧ q_ty x y cx cy 0 = y := by
  have z1 : q_sn 0 = 0 := by decide
  have z2 : q_sn (0 + 900) = 65536 := by decide
  unfold q_tx q_ty
  rw [z1, z2]
  have r : ∀ z, q_round z 131072 = (2 * z + 131072) / 262144 := fun _ => rfl
  rw [r, r]
  omega
theorem pe_0 (n : Nat) (g : Nat → Nat → Int) : q_pe n g 20 0 1 = 0 := by simp [q_pe]
theorem pe_1 {n : Nat} {g : Nat → Nat → Int} (hf : q_fd n g 1 = 0) (h2 : g 0 2 = 5) (h1 : g 0 1 = 0) : q_pe n g 20 1 1 = 0 := by simp [q_pe, hf, h2, h1]
theorem ou_0 (n : Nat) (g : Nat → Nat → Int) (x y : Int) : q_ou n g 20 0 x y = (x, y) := by simp [q_ou]
theorem ou_1 {n : Nat} {g : Nat → Nat → Int} (hf : q_fd n g 1 = 0) (h1 : g 0 1 = 0) (x y : Int) : q_ou n g 20 1 x y = (q_tx (x + g 0 3) (y + g 0 4) (2 * g 0 3 + g 0 5) (2 * g 0 4 + g 0 6) (g 0 7), q_ty (x + g 0 3) (y + g 0 4) (2 * g 0 3 + g 0 5) (2 * g 0 4 + g 0 6) (g 0 7)) := by simp [q_ou, hf, h1]
theorem chk_flat {n : Nat} {g : Nat → Nat → Int} {a : Int} (hn : n ≤ 1000) (h0 : ∀ i, i < n → g i 0 = i + a) (h1 : ∀ i, i < n → q_c1 g i = 0) (hp : ∀ i, i < n → q_pe i g 20 (g i 1) 1 = 0) : q_chk n g = 0 := chk_ok_of hn (fun i hi => by
  unfold q_ce
  rw [if_neg (by rw [h1 i hi]; decide), if_neg ?_]
  · exact hp i hi
  · rw [twi_iff]
    rintro ⟨k, _, h3, h4⟩
    rw [h0 k (by omega), h0 i hi] at h4
    omega)
theorem fd_flat {n : Nat} {g : Nat → Nat → Int} {a : Int} (h0 : ∀ i, i < n → g i 0 = i + a) {k : Nat} (hk : k < n) : q_fd n g (k + a) = k := fd_at hk (h0 k hk) (fun k' h => by rw [h0 k' (by omega)]; omega)
/-- A drawing as the statement makes it. -/
structure Gd (N : Nat) (g : Nat → Nat → Int) : Prop where
  n1 : N ≤ 10
  i0 : ∀ i, i < N → g i 0 = i + 1
  k : ∀ i, i < N → 0 ≤ g i 2 ∧ g i 2 ≤ 7
  x : ∀ i, i < N → -2000 ≤ g i 3 ∧ g i 3 ≤ 2000
  y : ∀ i, i < N → -2000 ≤ g i 4 ∧ g i 4 ≤ 2000
  w : ∀ i, i < N → 0 ≤ g i 5 ∧ g i 5 ≤ 1500
  h : ∀ i, i < N → 0 ≤ g i 6 ∧ g i 6 ≤ 1500
  t : ∀ i, i < N → 0 ≤ g i 7 ∧ g i 7 ≤ 3599
  f : ∀ i, i < N → (0 ≤ g i 8 ∧ g i 8 ≤ 11) ∧ (0 ≤ g i 9 ∧ g i 9 ≤ 11) ∧ (g i 2 ≠ 6 → g i 8 = 0 ∧ g i 9 = 0)
theorem shG_gd (n : Nat) (g : Nat → Nat → Int) : Gd (min n 10) (q_shG true g) where
  n1 := Nat.min_le_right _ _
  i0 := fun i _ => rfl
  k := fun i _ => within_in _ _ _ (by omega)
  x := fun i _ => within_in _ _ _ (by omega)
  y := fun i _ => within_in _ _ _ (by omega)
  w := fun i _ => within_in _ _ _ (by omega)
  h := fun i _ => within_in _ _ _ (by omega)
  t := fun i _ => within_in _ _ _ (by omega)
  f := fun i _ => by
    have e2 : q_shG true g i 2 = q_within (g i 2) 0 7 := rfl
    have e8 : q_shG true g i 8 = if q_within (g i 2) 0 7 = 6 then q_within (g i 8) 0 11 else 0 := rfl
    have e9 : q_shG true g i 9 = if q_within (g i 2) 0 7 = 6 then q_within (g i 9) 0 11 else 0 := rfl
    have w8 := within_in (g i 8) 0 11 (by omega)
    have w9 := within_in (g i 9) 0 11 (by omega)
    rw [e2, e8, e9]
    by_cases c : q_within (g i 2) 0 7 = 6
    · rw [if_pos c, if_pos c]; exact ⟨w8, w9, fun h => absurd c h⟩
    · rw [if_neg c, if_neg c]; exact ⟨by omega, by omega, fun _ => ⟨rfl, rfl⟩⟩
/-- The drawing that is ungrouped. -/
def q_lF (g : Nat → Nat → Int) (T : Int) : Nat → Nat → Int := fun i j => if i = 0 then q_c10 1 0 5 (g 0 3) (g 0 4) (g 0 5) (g 0 6) T 0 0 j else if j = 1 then 1 else if j = 2 then (if g i 2 = 5 then 0 else g i 2) else g i j
def q_kd (k : Int) : Int := if k = 5 then 0 else k
section
variable {N : Nat} {g F : Nat → Nat → Int} {T : Int}
/-- F is that drawing. -/
def IsF (N : Nat) (g : Nat → Nat → Int) (T : Int) (F : Nat → Nat → Int) : Prop := ∀ i j, i < N + 1 → j < 10 → F i j = q_lF g T i j
theorem F_head (hF : IsF N g T F) : F 0 0 = 1 ∧ F 0 1 = 0 ∧ F 0 2 = 5 ∧ F 0 3 = g 0 3 ∧ F 0 4 = g 0 4 ∧ F 0 5 = g 0 5 ∧ F 0 6 = g 0 6 ∧ F 0 7 = T ∧ F 0 8 = 0 ∧ F 0 9 = 0 :=
  ⟨hF 0 0 (by omega) (by omega), hF 0 1 (by omega) (by omega), hF 0 2 (by omega) (by omega), hF 0 3 (by omega) (by omega), hF 0 4 (by omega) (by omega), hF 0 5 (by omega) (by omega), hF 0 6 (by omega) (by omega), hF 0 7 (by omega) (by omega), hF 0 8 (by omega) (by omega), hF 0 9 (by omega) (by omega)⟩
theorem F_item (hF : IsF N g T F) {i : Nat} (hi : i < N) : F (i + 1) 0 = g (i + 1) 0 ∧ F (i + 1) 1 = 1 ∧ F (i + 1) 2 = q_kd (g (i + 1) 2) ∧ F (i + 1) 3 = g (i + 1) 3 ∧ F (i + 1) 4 = g (i + 1) 4 ∧ F (i + 1) 5 = g (i + 1) 5 ∧ F (i + 1) 6 = g (i + 1) 6 ∧ F (i + 1) 7 = g (i + 1) 7 ∧ F (i + 1) 8 = g (i + 1) 8 ∧ F (i + 1) 9 = g (i + 1) 9 :=
  ⟨hF _ 0 (by omega) (by omega), hF _ 1 (by omega) (by omega), hF _ 2 (by omega) (by omega), hF _ 3 (by omega) (by omega), hF _ 4 (by omega) (by omega), hF _ 5 (by omega) (by omega), hF _ 6 (by omega) (by omega), hF _ 7 (by omega) (by omega), hF _ 8 (by omega) (by omega), hF _ 9 (by omega) (by omega)⟩
theorem F_i0 (hG : Gd (N + 1) g) (hF : IsF N g T F) : ∀ i, i < N + 1 → F i 0 = i + 1 := fun i hi => by
  cases i with
  | zero => rw [(F_head hF).1]; rfl
  | succ i => rw [(F_item hF (by omega)).1, hG.i0 _ hi]
theorem F_fd1 (hG : Gd (N + 1) g) (hF : IsF N g T F) {n : Nat} (h : 0 < n) (h2 : n ≤ N + 1) : q_fd n F 1 = 0 := fd_at (k := 0) h (F_head hF).1 (fun k' h => absurd h (Nat.not_lt_zero _))
theorem F_chk (hG : Gd (N + 1) g) (hT : 0 ≤ T ∧ T ≤ 3599) (hF : IsF N g T F) : q_chk (N + 1) F = 0 := by
  refine chk_flat (a := 1) (by have := hG.n1; omega) (F_i0 hG hF) (fun i hi => ?_) (fun i hi => ?_)
  · have hn := hG.n1
    have g0 := hG.i0 i hi
    have gk := hG.k i hi
    have gx := hG.x i hi
    have gy := hG.y i hi
    have gw := hG.w i hi
    have gh := hG.h i hi
    have gt := hG.t i hi
    have gf := hG.f i hi
    rw [c1_zero]
    cases i with
    | zero =>
      obtain ⟨h0, h1, h2, h3, h4, h5, h6, h7, h8, h9⟩ := F_head hF
      rw [h0, h1, h2, h3, h4, h5, h6, h7, h8, h9]
      omega
    | succ i =>
      obtain ⟨h0, h1, h2, h3, h4, h5, h6, h7, h8, h9⟩ := F_item hF (show i < N by omega)
      rw [h0, h1, h2, h3, h4, h5, h6, h7, h8, h9]
      unfold q_kd
      split <;> omega
  · cases i with
    | zero => rw [(F_head hF).2.1]; exact pe_0 _ _
    | succ i => rw [(F_item hF (show i < N by omega)).2.1]; exact pe_1 (F_fd1 hG hF (by omega) (by omega)) (F_head hF).2.2.1 (F_head hF).2.1
theorem F_Cd (hG : Gd (N + 1) g) (hT : 0 ≤ T ∧ T ≤ 3599) (hF : IsF N g T F) : Cd (N + 1) F := fun i hi => by
  have gx := hG.x i hi
  have gy := hG.y i hi
  have gw := hG.w i hi
  have gh := hG.h i hi
  have gt := hG.t i hi
  cases i with
  | zero =>
    obtain ⟨h0, h1, h2, h3, h4, h5, h6, h7, h8, h9⟩ := F_head hF
    rw [h3, h4, h5, h6, h7]
    omega
  | succ i =>
    obtain ⟨h0, h1, h2, h3, h4, h5, h6, h7, h8, h9⟩ := F_item hF (show i < N by omega)
    rw [h3, h4, h5, h6, h7]
    omega
/-- The drawing behind. -/
abbrev q_U (F : Nat → Nat → Int) : Nat → Nat → Int := q_uG 0 1 F
theorem U_item (hF : IsF N g T F) {i : Nat} (hi : i < N) : q_U F i 0 = g (i + 1) 0 ∧ q_U F i 1 = 0 ∧ q_U F i 2 = q_kd (g (i + 1) 2) ∧ q_U F i 3 = q_ugX (fun j => F 0 j) (fun j => F (i + 1) j) ∧ q_U F i 4 = q_ugY (fun j => F 0 j) (fun j => F (i + 1) j) ∧ q_U F i 5 = g (i + 1) 5 ∧ q_U F i 6 = g (i + 1) 6 ∧ q_U F i 7 = q_ugT (fun j => F 0 j) (fun j => F (i + 1) j) ∧ q_U F i 8 = (if (g (i + 1) 8 == 1) = true then 0 else g (i + 1) 8) ∧ q_U F i 9 = (if (g (i + 1) 9 == 1) = true then 0 else g (i + 1) 9) := by
  have e : q_up 0 i = i + 1 := by unfold q_up; rw [if_neg (by omega)]
  obtain ⟨h0, h1, h2, h3, h4, h5, h6, h7, h8, h9⟩ := F_item hF hi
  have c : (F (i + 1) 1 == 1) = true := by rw [h1]; rfl
  unfold q_U q_uG
  rw [e]
  refine ⟨h0, ?_, h2, ?_, ?_, h5, h6, ?_, ?_, ?_⟩
  · show (if (F (i + 1) 1 == 1) = true then F 0 1 else F (i + 1) 1) = 0
    rw [if_pos c, (F_head hF).2.1]
  · exact if_pos c
  · exact if_pos c
  · exact if_pos c
  · rw [← h8]; rfl
  · rw [← h9]; rfl
theorem U_xyt (hG : Gd (N + 1) g) (hT : 0 ≤ T ∧ T ≤ 3599) (hF : IsF N g T F) {i : Nat} (hi : i < N) :
    (0 ≤ 2 * q_ugX (fun j => F 0 j) (fun j => F (i + 1) j) - (q_tx (2 * (g (i + 1) 3 + g 0 3) + g (i + 1) 5) (2 * (g (i + 1) 4 + g 0 4) + g (i + 1) 6) (2 * (2 * g 0 3 + g 0 5)) (2 * (2 * g 0 4 + g 0 6)) T - g (i + 1) 5) ∧ 2 * q_ugX (fun j => F 0 j) (fun j => F (i + 1) j) - (q_tx (2 * (g (i + 1) 3 + g 0 3) + g (i + 1) 5) (2 * (g (i + 1) 4 + g 0 4) + g (i + 1) 6) (2 * (2 * g 0 3 + g 0 5)) (2 * (2 * g 0 4 + g 0 6)) T - g (i + 1) 5) ≤ 1) ∧
    (0 ≤ 2 * q_ugY (fun j => F 0 j) (fun j => F (i + 1) j) - (q_ty (2 * (g (i + 1) 3 + g 0 3) + g (i + 1) 5) (2 * (g (i + 1) 4 + g 0 4) + g (i + 1) 6) (2 * (2 * g 0 3 + g 0 5)) (2 * (2 * g 0 4 + g 0 6)) T - g (i + 1) 6) ∧ 2 * q_ugY (fun j => F 0 j) (fun j => F (i + 1) j) - (q_ty (2 * (g (i + 1) 3 + g 0 3) + g (i + 1) 5) (2 * (g (i + 1) 4 + g 0 4) + g (i + 1) 6) (2 * (2 * g 0 3 + g 0 5)) (2 * (2 * g 0 4 + g 0 6)) T - g (i + 1) 6) ≤ 1) ∧
    q_ugT (fun j => F 0 j) (fun j => F (i + 1) j) % 3600 = (g (i + 1) 7 + T) % 3600 ∧ 0 ≤ q_ugT (fun j => F 0 j) (fun j => F (i + 1) j) ∧ q_ugT (fun j => F 0 j) (fun j => F (i + 1) j) ≤ 3599 := by
  obtain ⟨h0, h1, h2, h3, h4, h5, h6, h7, h8, h9⟩ := F_item hF hi
  obtain ⟨k0, k1, k2, k3, k4, k5, k6, k7, k8, k9⟩ := F_head hF
  have gt := hG.t (i + 1) (by omega)
  unfold q_ugX q_ugY q_ugT
  simp only [h3, h4, h5, h6, h7, k3, k4, k5, k6, k7]
  by_cases c : T = 0
  · subst c
    rw [(tx_zero _ _ _ _).1, (tx_zero _ _ _ _).2]
    simp only [show ((0 : Int) != 0) = false from rfl, Bool.false_eq_true, if_false]
    refine ⟨by omega, by omega, by omega, by omega⟩
  · have c' : (T != 0) = true := by simpa using c
    simp only [c', if_true]
    rw [Int.tmod_eq_emod_of_nonneg (by omega)]
    exact ⟨r2 _, r2 _, by omega, by omega, by omega⟩
theorem U_bd (hG : Gd (N + 1) g) (hT : 0 ≤ T ∧ T ≤ 3599) (hF : IsF N g T F) {i : Nat} (hi : i < N) : (-20000 ≤ q_U F i 3 ∧ q_U F i 3 ≤ 20000) ∧ (-20000 ≤ q_U F i 4 ∧ q_U F i 4 ≤ 20000) := by
  obtain ⟨h0, h1, h2, h3, h4, h5, h6, h7, h8, h9⟩ := U_item hF hi
  obtain ⟨a1, a2, _⟩ := U_xyt hG hT hF hi
  have gx := hG.x (i + 1) (by omega)
  have gy := hG.y (i + 1) (by omega)
  have gw := hG.w (i + 1) (by omega)
  have gh := hG.h (i + 1) (by omega)
  have kx := hG.x 0 (by omega)
  have ky := hG.y 0 (by omega)
  have kw := hG.w 0 (by omega)
  have kh := hG.h 0 (by omega)
  have bd := tx_bd4 (x := 2 * (g (i + 1) 3 + g 0 3) + g (i + 1) 5) (y := 2 * (g (i + 1) 4 + g 0 4) + g (i + 1) 6) (cx := 2 * (2 * g 0 3 + g 0 5)) (cy := 2 * (2 * g 0 4 + g 0 6)) (t := T) (C := 11000) (D := 30000) (by omega) (by omega) (by omega) (by omega) (by omega)
  rw [h3, h4]
  generalize q_tx (2 * (g (i + 1) 3 + g 0 3) + g (i + 1) 5) (2 * (g (i + 1) 4 + g 0 4) + g (i + 1) 6) (2 * (2 * g 0 3 + g 0 5)) (2 * (2 * g 0 4 + g 0 6)) T = X at *
  generalize q_ty (2 * (g (i + 1) 3 + g 0 3) + g (i + 1) 5) (2 * (g (i + 1) 4 + g 0 4) + g (i + 1) 6) (2 * (2 * g 0 3 + g 0 5)) (2 * (2 * g 0 4 + g 0 6)) T = Y at *
  omega
theorem U_i0 (hG : Gd (N + 1) g) (hF : IsF N g T F) : ∀ i, i < N → q_U F i 0 = i + 2 := fun i hi => by
  rw [(U_item hF hi).1, hG.i0 _ (by omega)]; omega
theorem U_Cd (hG : Gd (N + 1) g) (hT : 0 ≤ T ∧ T ≤ 3599) (hF : IsF N g T F) : Cd (N) (q_U F) := fun i hi => by
  obtain ⟨h0, h1, h2, h3, h4, h5, h6, h7, h8, h9⟩ := U_item hF hi
  obtain ⟨b1, b2⟩ := U_bd hG hT hF hi
  obtain ⟨_, _, a3⟩ := U_xyt hG hT hF hi
  have gw := hG.w (i + 1) (by omega)
  have gh := hG.h (i + 1) (by omega)
  rw [h5, h6, h7]
  omega
theorem U_chk (hG : Gd (N + 1) g) (hT : 0 ≤ T ∧ T ≤ 3599) (hF : IsF N g T F) : q_chk (N) (q_U F) = 0 := by
  refine chk_flat (a := 2) (by have := hG.n1; omega) (U_i0 hG hF) (fun i hi => ?_) (fun i hi => ?_)
  · have hn := hG.n1
    have g0 := hG.i0 (i + 1) (by omega)
    have gk := hG.k (i + 1) (by omega)
    have gw := hG.w (i + 1) (by omega)
    have gh := hG.h (i + 1) (by omega)
    have gf := hG.f (i + 1) (by omega)
    obtain ⟨b1, b2⟩ := U_bd hG hT hF hi
    obtain ⟨_, _, a3⟩ := U_xyt hG hT hF hi
    obtain ⟨h0, h1, h2, h3, h4, h5, h6, h7, h8, h9⟩ := U_item hF hi
    rw [c1_zero, h0, h1, h2, h5, h6, h7, h8, h9]
    unfold q_kd
    generalize q_ugT (fun j => F 0 j) (fun j => F (i + 1) j) = TT at *
    generalize q_U F i 3 = X at *
    generalize q_U F i 4 = Y at *
    have e8 : (if (g (i + 1) 8 == 1) = true then 0 else g (i + 1) 8) = 0 ∨ (if (g (i + 1) 8 == 1) = true then 0 else g (i + 1) 8) = g (i + 1) 8 := by split <;> simp
    have e9 : (if (g (i + 1) 9 == 1) = true then 0 else g (i + 1) 9) = 0 ∨ (if (g (i + 1) 9 == 1) = true then 0 else g (i + 1) 9) = g (i + 1) 9 := by split <;> simp
    generalize (if (g (i + 1) 8 == 1) = true then 0 else g (i + 1) 8) = z8 at *
    generalize (if (g (i + 1) 9 == 1) = true then 0 else g (i + 1) 9) = z9 at *
    split <;> omega
  · rw [(U_item hF hi).2.1]; exact pe_0 _ _
/-- Corners of both drawings. -/
theorem UF_near (hG : Gd (N + 1) g) (hT : 0 ≤ T ∧ T ≤ 3599) (hF : IsF N g T F) {i : Nat} (hi : i < N) (k : Nat) {m : Nat} {U : Nat → Nat → Int} (hU : ∀ j, j < 10 → U i j = q_U F i j) (hm : q_fd m U ((i : Int) + 2) = i) :
    (-6 ≤ (q_vi (N + 1) F ((i : Int) + 2) k).1 - (q_vi m U ((i : Int) + 2) k).1 ∧ (q_vi (N + 1) F ((i : Int) + 2) k).1 - (q_vi m U ((i : Int) + 2) k).1 ≤ 6) ∧ (-6 ≤ (q_vi (N + 1) F ((i : Int) + 2) k).2 - (q_vi m U ((i : Int) + 2) k).2 ∧ (q_vi (N + 1) F ((i : Int) + 2) k).2 - (q_vi m U ((i : Int) + 2) k).2 ≤ 6) := by
  have f1 : q_fd (N + 1) F ((i : Int) + 2) = ((i + 1 : Nat) : Int) := by
    have := fd_flat (F_i0 hG hF) (k := i + 1) (by omega)
    rw [← this]; congr 1
  unfold q_vi q_vc
  rw [f1, hm, Int.toNat_natCast, Int.toNat_natCast]
  obtain ⟨h0, h1, h2, h3, h4, h5, h6, h7, h8, h9⟩ := F_item hF hi
  obtain ⟨k0, k1, k2, k3, k4, k5, k6, k7, k8, k9⟩ := F_head hF
  obtain ⟨u0, u1, u2, u3, u4, u5, u6, u7, u8, u9⟩ := U_item hF hi
  have p1 : F (i + 1) 1 = 1 := h1
  have p2 : U i 1 = 0 := (hU 1 (by omega)).trans u1
  simp only [p1, p2]
  rw [ou_1 (F_fd1 hG hF (by omega) (by omega)) k1, ou_0]
  obtain ⟨a1, a2, a3, _⟩ := U_xyt hG hT hF hi
  have gw := hG.w (i + 1) (by omega)
  have gh := hG.h (i + 1) (by omega)
  have key := fun x y hx hy => near_xy (g (i + 1) 3) (g (i + 1) 4) (g (i + 1) 5) (g (i + 1) 6) (g (i + 1) 7) (g 0 3) (g 0 4) (g 0 5) (g 0 6) T x y gw gh hx hy _ _ _ a3 a1 a2
  rcases k with _ | _ | _ | k
  all_goals
    simp only [q_cx, q_cy]
    simp only [h3, h4, h5, h6, h7, k3, k4, k5, k6, k7, hU 3 (show 3 < 10 by omega), hU 4 (show 4 < 10 by omega), hU 5 (show 5 < 10 by omega), hU 6 (show 6 < 10 by omega), hU 7 (show 7 < 10 by omega), u3, u4, u5, u6, u7]
    generalize q_ugX (fun j => F 0 j) (fun j => F (i + 1) j) = X' at *
    generalize q_ugY (fun j => F 0 j) (fun j => F (i + 1) j) = Y' at *
    generalize q_ugT (fun j => F 0 j) (fun j => F (i + 1) j) = T' at *
  · have := key (g (i + 1) 3) (g (i + 1) 4) (.inl rfl) (.inl rfl)
    rw [show g (i + 1) 3 - g (i + 1) 3 + X' = X' by omega, show g (i + 1) 4 - g (i + 1) 4 + Y' = Y' by omega] at this
    exact this
  · have := key (g (i + 1) 3 + g (i + 1) 5) (g (i + 1) 4) (.inr rfl) (.inl rfl)
    rw [show g (i + 1) 3 + g (i + 1) 5 - g (i + 1) 3 + X' = X' + g (i + 1) 5 by omega, show g (i + 1) 4 - g (i + 1) 4 + Y' = Y' by omega] at this
    exact this
  · have := key (g (i + 1) 3 + g (i + 1) 5) (g (i + 1) 4 + g (i + 1) 6) (.inr rfl) (.inr rfl)
    rw [show g (i + 1) 3 + g (i + 1) 5 - g (i + 1) 3 + X' = X' + g (i + 1) 5 by omega, show g (i + 1) 4 + g (i + 1) 6 - g (i + 1) 4 + Y' = Y' + g (i + 1) 6 by omega] at this
    exact this
  · have := key (g (i + 1) 3) (g (i + 1) 4 + g (i + 1) 6) (.inl rfl) (.inr rfl)
    rw [show g (i + 1) 3 - g (i + 1) 3 + X' = X' by omega, show g (i + 1) 4 + g (i + 1) 6 - g (i + 1) 4 + Y' = Y' + g (i + 1) 6 by omega] at this
    exact this
end
end Go.Proofs.YtgipgiejdbhpkaaDoor.Sh
