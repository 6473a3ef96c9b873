import Derived.Test.YtfemkfodakfcmaaDoorEv11
import Derived.Test.YtfemkfodakfcmaaDoorProg
import Derived.KernelRfl
namespace Go.Proofs.YtfemkfodakfcmaaDoor.Sh
open Go Go.RowKit Go.Proofs.YtfemkfodakfcmaaDoor.Ev Go.Proofs.Tryd
abbrev i64 (n : Int) : PV := .one (.int .i64 n)
abbrev bl (b : Bool) : PV := .one (.bool b)
abbrev W (n : Int) : Int := IntKind.wrap .i64 n
theorem W_id {n : Int} (h : -9223372036854775808 ≤ n) (h2 : n ≤ 9223372036854775807) : W n = n := wrap_id h h2
def qtab : List Int := [0, 1144, 2287, 3430, 4572, 5712, 6850, 7987, 9121, 10252, 11380, 12505, 13626, 14742, 15855, 16962, 18064, 19161, 20252, 21336, 22415, 23486, 24550, 25607, 26656, 27697, 28729, 29753, 30767, 31772, 32768, 33754, 34729, 35693, 36647, 37590, 38521, 39441, 40348, 41243, 42126, 42995, 43852, 44695, 45525, 46341, 47143, 47930, 48703, 49461, 50203, 50931, 51643, 52339, 53020, 53684, 54332, 54963, 55578, 56175, 56756, 57319, 57865, 58393, 58903, 59396, 59870, 60326, 60764, 61183, 61584, 61966, 62328, 62672, 62997, 63303, 63589, 63856, 64104, 64332, 64540, 64729, 64898, 65048, 65177, 65287, 65376, 65446, 65496, 65526, 65536]
def q_qt (n : Nat) : Int := qtab.getD n 0
noncomputable def noD : FuncId → PV := fun _ => i64 0
noncomputable def gl : Globs := fun g => if g = 2 then some (.vp 91 (fun j => .int .i64 (q_qt j)) 0) else none
noncomputable def noM : Orac := fun _ _ _ _ => none
theorem chk_true {α : Type} {C p : Bool} {r : Option α} (h : p = true) : chk C p r = r := by unfold chk; rw [h]; rfl
theorem qt_bound (n : Nat) : 0 ≤ q_qt n ∧ q_qt n ≤ 65536 := by
  have key : ∀ l : List Int, (l.all fun x => decide (0 ≤ x) && decide (x ≤ 65536)) = true → ∀ n, 0 ≤ l.getD n 0 ∧ l.getD n 0 ≤ 65536 := by
    intro l
    induction l with
    | nil => intro _ n; simp
    | cons a l ih =>
      intro h n
      simp only [List.all_cons, Bool.and_eq_true, decide_eq_true_eq] at h
      cases n with
      | zero => simpa using h.1
      | succ n => simpa using ih h.2 n
  exact key qtab (by decide) n
/-- Of at most k in amount: a test that is stuck at once where the number is not known. -/
def q_small (k : Nat) (a : Int) : Bool := match a with
  | .ofNat n => Nat.ble n k
  | .negSucc n => Nat.ble n k
theorem small_iff {k : Nat} {a : Int} : q_small k a = true ↔ -(k : Int) - 1 ≤ a ∧ a ≤ (k : Int) := by
  cases a with
  | ofNat n =>
    show Nat.ble n k = true ↔ _
    rw [Nat.ble_eq, Int.ofNat_eq_natCast]
    omega
  | negSucc n =>
    show Nat.ble n k = true ↔ _
    rw [Nat.ble_eq, Int.negSucc_eq]
    omega
/-! within -/
def q_within (v lo hi : Int) : Int := lo + v % (hi - lo + 1)
theorem within_raw (fl : Nat) (a b c : Int) : callF prog gl noD fl noM 0 8 [i64 a, i64 b, i64 c] [] = (chk true (W (W (c - b) + (1 : Int)) != (0 : Int)) (chk true (W (W (c - b) + (1 : Int)) != (0 : Int)) (some ((i64 ((W (b + (W (a.tmod (W (W (c - b) + (1 : Int))) + W (W (c - b) + (1 : Int)))).tmod (W (W (c - b) + (1 : Int)))))), []))))) := by kernel_rfl
theorem tmod_lt {a m : Int} (hm : 0 < m) : -m < a.tmod m ∧ a.tmod m < m := ⟨Int.lt_tmod_of_pos a hm, Int.tmod_lt_of_pos a hm⟩
theorem tmod_pos {a m : Int} (hm : 0 < m) : (a.tmod m + m).tmod m = a % m := by
  have h1 := tmod_lt (a := a) hm
  rw [Int.tmod_eq_emod_of_nonneg (by omega), Int.add_emod_right, Int.tmod_def, Int.sub_mul_emod_self_left]
theorem within_eq (fl : Nat) (a b c : Int) (h : q_small 1000000000 b = true ∧ q_small 1000000000 c = true ∧ b ≤ c) : callF prog gl noD fl noM 0 8 [i64 a, i64 b, i64 c] [] = some (i64 (q_within a b c), []) := by
  rw [within_raw]
  rw [small_iff, small_iff] at h
  have hm : W (W (c - b) + 1) = c - b + 1 := by rw [W_id (n := c - b) (by omega) (by omega), W_id (by omega) (by omega)]
  rw [hm]
  have h1 := tmod_lt (a := a) (m := c - b + 1) (by omega)
  have h2 := Int.emod_nonneg a (b := c - b + 1) (by omega)
  have h3 := Int.emod_lt_of_pos a (b := c - b + 1) (by omega)
  rw [W_id (n := a.tmod (c - b + 1) + (c - b + 1)) (by omega) (by omega), tmod_pos (by omega), W_id (by omega) (by omega), chk_true (by simp; omega), chk_true (by simp; omega)]
  rfl
def aWithin : Nat → List PV → Heap → Option (Bool × PV × Heap)
  | 0, [.one (.int .i64 a), .one (.int .i64 b), .one (.int .i64 c)], [] => some (q_small 1000000000 b && (q_small 1000000000 c && decide (b ≤ c)), i64 (q_within a b c), [])
  | _, _, _ => none
/-! round -/
def q_round (a b : Int) : Int := (2 * a + b) / (2 * b)
theorem round_raw (fl : Nat) (a b : Int) : callF prog gl noD fl noM 0 33 [i64 a, i64 b] [] = (chk true (W (b * (2 : Int)) != (0 : Int)) (chk true (W (b * (2 : Int)) != (0 : Int)) (if (decide ((W (W ((2 : Int) * a) + b)).tmod (W (b * (2 : Int))) < (0 : Int))) = true then (some ((i64 ((W (W ((W (W ((2 : Int) * a) + b)).tdiv (W (b * (2 : Int)))) - (1 : Int)))), []))) else (some ((i64 ((W ((W (W ((2 : Int) * a) + b)).tdiv (W (b * (2 : Int)))))), [])))))) := by kernel_rfl
theorem tdiv_floor {a b : Int} (hb : 0 < b) : (if a.tmod b < 0 then a.tdiv b - 1 else a.tdiv b) = a / b := by
  have h1 := Int.tmod_add_mul_tdiv a b
  have h2 := tmod_lt (a := a) hb
  have h3 : (a.tdiv b - 1) * b = b * a.tdiv b - b := by rw [Int.sub_mul, Int.mul_comm]; omega
  have h4 : a.tdiv b * b = b * a.tdiv b := Int.mul_comm _ _
  split
  · symm
    rw [Int.ediv_eq_iff_of_pos hb]
    constructor <;> omega
  · symm
    rw [Int.ediv_eq_iff_of_pos hb]
    constructor <;> omega
theorem round_eq (fl : Nat) (a b : Int) (h : q_small 1000000000000000000 a = true ∧ q_small 1000000000000000000 b = true ∧ 0 < b) : callF prog gl noD fl noM 0 33 [i64 a, i64 b] [] = some (i64 (q_round a b), []) := by
  rw [round_raw]
  rw [small_iff, small_iff] at h
  rw [W_id (n := 2 * a) (by omega) (by omega), W_id (n := 2 * a + b) (by omega) (by omega), W_id (n := b * 2) (by omega) (by omega), chk_true (by simp; omega), chk_true (by simp; omega)]
  have h1 := tdiv_floor (a := 2 * a + b) (b := b * 2) (by omega)
  have h2 : -(1000000000000000000 * 3) ≤ (2 * a + b).tdiv (b * 2) ∧ (2 * a + b).tdiv (b * 2) ≤ 1000000000000000000 * 3 := by
    have h3 := Int.natAbs_tdiv_le_natAbs (2 * a + b) (b * 2)
    omega
  unfold q_round
  rw [show 2 * b = b * 2 by omega, ← h1]
  by_cases hc : (2 * a + b).tmod (b * 2) < 0
  · rw [if_pos (by simpa using hc), if_pos hc, W_id (n := (2 * a + b).tdiv (b * 2)) (by omega) (by omega), W_id (by omega) (by omega)]
  · rw [if_neg (by simpa using hc), if_neg hc, W_id (by omega) (by omega)]
def aRound : Nat → List PV → Heap → Option (Bool × PV × Heap)
  | 0, [.one (.int .i64 a), .one (.int .i64 b)], [] => some (q_small 1000000000000000000 a && (q_small 1000000000000000000 b && decide (0 < b)), i64 (q_round a b), [])
  | _, _, _ => none
/-! sine -/
def q_sq (t : Int) : Int := if t % 10 = 0 then q_qt (t / 10).toNat else (q_qt (t / 10).toNat * (10 - t % 10) + q_qt (t / 10 + 1).toNat * (t % 10) + 5) / 10
def q_sn (t : Int) : Int := if t % 3600 > 2700 then -q_sq (3600 - t % 3600) else if t % 3600 > 1800 then -q_sq (t % 3600 - 1800) else if t % 3600 > 900 then q_sq (1800 - t % 3600) else q_sq (t % 3600)
def aSq : Nat → List PV → Heap → Option (Bool × PV × Heap)
  | 0, [.one (.int .i64 a)], [] => some (decide (0 ≤ a ∧ a ≤ 900), i64 (q_sq a), [])
  | _, _, _ => none
theorem sine_raw (fl : Nat) (M : Orac) (t : Int) : callF prog gl noD fl (addM 41 aSq M) 0 41 [i64 t] [] = (if (decide ((W (t.tmod (3600 : Int) + (3600 : Int))).tmod (3600 : Int) > (2700 : Int))) = true then (if (decide ((0 : Int) ≤ W ((3600 : Int) - (W (t.tmod (3600 : Int) + (3600 : Int))).tmod (3600 : Int)) ∧ W ((3600 : Int) - (W (t.tmod (3600 : Int) + (3600 : Int))).tmod (3600 : Int)) ≤ (900 : Int))) = true then (some ((i64 ((W ((0 : Int) - q_sq (W ((3600 : Int) - (W (t.tmod (3600 : Int) + (3600 : Int))).tmod (3600 : Int)))))), []))) else none) else (if (decide ((W (t.tmod (3600 : Int) + (3600 : Int))).tmod (3600 : Int) > (1800 : Int))) = true then (if (decide ((0 : Int) ≤ W ((W (t.tmod (3600 : Int) + (3600 : Int))).tmod (3600 : Int) - (1800 : Int)) ∧ W ((W (t.tmod (3600 : Int) + (3600 : Int))).tmod (3600 : Int) - (1800 : Int)) ≤ (900 : Int))) = true then (some ((i64 ((W ((0 : Int) - q_sq (W ((W (t.tmod (3600 : Int) + (3600 : Int))).tmod (3600 : Int) - (1800 : Int)))))), []))) else none) else (if (decide ((W (t.tmod (3600 : Int) + (3600 : Int))).tmod (3600 : Int) > (900 : Int))) = true then (if (decide ((0 : Int) ≤ W ((1800 : Int) - (W (t.tmod (3600 : Int) + (3600 : Int))).tmod (3600 : Int)) ∧ W ((1800 : Int) - (W (t.tmod (3600 : Int) + (3600 : Int))).tmod (3600 : Int)) ≤ (900 : Int))) = true then (some ((i64 ((q_sq (W ((1800 : Int) - (W (t.tmod (3600 : Int) + (3600 : Int))).tmod (3600 : Int))))), []))) else none) else (if (((W (t.tmod (3600 : Int) + (3600 : Int))).tmod (3600 : Int)).tmod (10 : Int) == (0 : Int)) = true then (chk true (decide ((0 : Int) ≤ W (((W (t.tmod (3600 : Int) + (3600 : Int))).tmod (3600 : Int)).tdiv (10 : Int))) && decide (W (((W (t.tmod (3600 : Int) + (3600 : Int))).tmod (3600 : Int)).tdiv (10 : Int)) < (91 : Int))) (chk true (decide ((0 : Nat) + (W (((W (t.tmod (3600 : Int) + (3600 : Int))).tmod (3600 : Int)).tdiv (10 : Int))).toNat * (1 : Nat) < (91 : Nat))) (some ((i64 ((q_qt ((0 : Nat) + (W (((W (t.tmod (3600 : Int) + (3600 : Int))).tmod (3600 : Int)).tdiv (10 : Int))).toNat * (1 : Nat)))), []))))) else (chk true (decide ((0 : Int) ≤ W (((W (t.tmod (3600 : Int) + (3600 : Int))).tmod (3600 : Int)).tdiv (10 : Int))) && decide (W (((W (t.tmod (3600 : Int) + (3600 : Int))).tmod (3600 : Int)).tdiv (10 : Int)) < (91 : Int))) (chk true (decide ((0 : Nat) + (W (((W (t.tmod (3600 : Int) + (3600 : Int))).tmod (3600 : Int)).tdiv (10 : Int))).toNat * (1 : Nat) < (91 : Nat))) (chk true (decide ((0 : Int) ≤ W (W (((W (t.tmod (3600 : Int) + (3600 : Int))).tmod (3600 : Int)).tdiv (10 : Int)) + (1 : Int))) && decide (W (W (((W (t.tmod (3600 : Int) + (3600 : Int))).tmod (3600 : Int)).tdiv (10 : Int)) + (1 : Int)) < (91 : Int))) (chk true (decide ((0 : Nat) + (W (W (((W (t.tmod (3600 : Int) + (3600 : Int))).tmod (3600 : Int)).tdiv (10 : Int)) + (1 : Int))).toNat * (1 : Nat) < (91 : Nat))) (some ((i64 ((W ((W (W (W (q_qt ((0 : Nat) + (W (((W (t.tmod (3600 : Int) + (3600 : Int))).tmod (3600 : Int)).tdiv (10 : Int))).toNat * (1 : Nat)) * W ((10 : Int) - ((W (t.tmod (3600 : Int) + (3600 : Int))).tmod (3600 : Int)).tmod (10 : Int))) + W (q_qt ((0 : Nat) + (W (W (((W (t.tmod (3600 : Int) + (3600 : Int))).tmod (3600 : Int)).tdiv (10 : Int)) + (1 : Int))).toNat * (1 : Nat)) * ((W (t.tmod (3600 : Int) + (3600 : Int))).tmod (3600 : Int)).tmod (10 : Int))) + (5 : Int))).tdiv (10 : Int)))), []))))))))))) := by kernel_rfl
theorem sq_bound (t : Int) : -1 ≤ q_sq t ∧ q_sq t ≤ 65537 := by
  unfold q_sq
  have h1 := qt_bound (t / 10).toNat
  have h2 := qt_bound (t / 10 + 1).toNat
  split
  · omega
  · have h3 := Int.emod_nonneg t (b := 10) (by omega)
    have h4 := Int.emod_lt_of_pos t (b := 10) (by omega)
    generalize q_qt (t / 10).toNat = x at *
    generalize q_qt (t / 10 + 1).toNat = y at *
    generalize t % 10 = r at *
    have : r = 0 ∨ r = 1 ∨ r = 2 ∨ r = 3 ∨ r = 4 ∨ r = 5 ∨ r = 6 ∨ r = 7 ∨ r = 8 ∨ r = 9 := by omega
    rcases this with rfl | rfl | rfl | rfl | rfl | rfl | rfl | rfl | rfl | rfl <;> omega
theorem sn_bound (t : Int) : -65537 ≤ q_sn t ∧ q_sn t ≤ 65537 := by
  unfold q_sn
  have h1 := sq_bound (3600 - t % 3600)
  have h2 := sq_bound (t % 3600 - 1800)
  have h3 := sq_bound (1800 - t % 3600)
  have h4 := sq_bound (t % 3600)
  split
  · omega
  · split
    · omega
    · split <;> omega
def aSine : Nat → List PV → Heap → Option (Bool × PV × Heap)
  | 0, [.one (.int .i64 a)], [] => some (q_small 1000000 a, i64 (q_sn a), [])
  | _, _, _ => none
/-- Where no call is met. -/
theorem sq_raw (u : Int) (h : 0 ≤ u ∧ u ≤ 900) (X Y Z : Option (PV × Heap)) : (if (decide (u > 2700)) = true then X else (if (decide (u > 1800)) = true then Y else (if (decide (u > 900)) = true then Z else (if (u.tmod 10 == 0) = true then (chk true (decide (0 ≤ W (u.tdiv 10)) && decide (W (u.tdiv 10) < 91)) (chk true (decide (0 + (W (u.tdiv 10)).toNat * 1 < 91)) (some (i64 (q_qt (0 + (W (u.tdiv 10)).toNat * 1)), [])))) else (chk true (decide (0 ≤ W (u.tdiv 10)) && decide (W (u.tdiv 10) < 91)) (chk true (decide (0 + (W (u.tdiv 10)).toNat * 1 < 91)) (chk true (decide (0 ≤ W (W (u.tdiv 10) + 1)) && decide (W (W (u.tdiv 10) + 1) < 91)) (chk true (decide (0 + (W (W (u.tdiv 10) + 1)).toNat * 1 < 91)) (some (i64 (W ((W (W (W (q_qt (0 + (W (u.tdiv 10)).toNat * 1) * W (10 - u.tmod 10)) + W (q_qt (0 + (W (W (u.tdiv 10) + 1)).toNat * 1) * u.tmod 10)) + 5)).tdiv 10)), [])))))))))) = some (i64 (q_sq u), ([] : Heap)) := by
  rw [if_neg (by simp; omega), if_neg (by simp; omega), if_neg (by simp; omega)]
  have e1 : u.tmod 10 = u % 10 := Int.tmod_eq_emod_of_nonneg h.1
  have e2 : u.tdiv 10 = u / 10 := Int.tdiv_eq_ediv_of_nonneg h.1
  rw [e1, e2]
  have w1 : W (u / 10) = u / 10 := W_id (by omega) (by omega)
  rw [w1]
  have w2 : W (u / 10 + 1) = u / 10 + 1 := W_id (by omega) (by omega)
  rw [w2]
  unfold q_sq
  rw [chk_true (by simp; omega), chk_true (by simp; omega)]
  have e3 : 0 + (u / 10).toNat * 1 = (u / 10).toNat := by omega
  have e4 : 0 + (u / 10 + 1).toNat * 1 = (u / 10 + 1).toNat := by omega
  rw [e3, e4]
  by_cases hc : u % 10 = 0
  · rw [if_pos (by simpa using hc), if_pos hc]
  · rw [if_neg (by simpa using hc), if_neg hc]
    rw [chk_true (by simp; omega), chk_true (by simp; omega), chk_true (by simp; omega), chk_true (by simp; omega)]
    have h1 := qt_bound (u / 10).toNat
    have h2 := qt_bound (u / 10 + 1).toNat
    generalize q_qt (u / 10).toNat = x at *
    generalize q_qt (u / 10 + 1).toNat = y at *
    have h3 : 0 ≤ u % 10 ∧ u % 10 ≤ 9 := by omega
    generalize u % 10 = r at *
    have key : W ((W (W (W (x * W (10 - r)) + W (y * r)) + 5)).tdiv 10) = (x * (10 - r) + y * r + 5) / 10 := by
      have : r = 0 ∨ r = 1 ∨ r = 2 ∨ r = 3 ∨ r = 4 ∨ r = 5 ∨ r = 6 ∨ r = 7 ∨ r = 8 ∨ r = 9 := by omega
      rw [W_id (n := 10 - r) (by omega) (by omega)]
      have b1 : 0 ≤ x * (10 - r) ∧ x * (10 - r) ≤ 655360 := by rcases this with rfl | rfl | rfl | rfl | rfl | rfl | rfl | rfl | rfl | rfl <;> omega
      have b2 : 0 ≤ y * r ∧ y * r ≤ 655360 := by rcases this with rfl | rfl | rfl | rfl | rfl | rfl | rfl | rfl | rfl | rfl <;> omega
      generalize x * (10 - r) = p at *
      generalize y * r = q at *
      rw [W_id (n := p) (by omega) (by omega), W_id (n := q) (by omega) (by omega), W_id (n := p + q) (by omega) (by omega), W_id (n := p + q + 5) (by omega) (by omega), Int.tdiv_eq_ediv_of_nonneg (by omega), W_id (by omega) (by omega)]
    rw [key]
theorem sine_raw0 (fl : Nat) (t : Int) : callF prog gl noD fl noM 0 41 [i64 t] [] = (if (decide ((W (t.tmod (3600 : Int) + (3600 : Int))).tmod (3600 : Int) > (2700 : Int))) = true then none else (if (decide ((W (t.tmod (3600 : Int) + (3600 : Int))).tmod (3600 : Int) > (1800 : Int))) = true then none else (if (decide ((W (t.tmod (3600 : Int) + (3600 : Int))).tmod (3600 : Int) > (900 : Int))) = true then none else (if (((W (t.tmod (3600 : Int) + (3600 : Int))).tmod (3600 : Int)).tmod (10 : Int) == (0 : Int)) = true then (chk true (decide ((0 : Int) ≤ W (((W (t.tmod (3600 : Int) + (3600 : Int))).tmod (3600 : Int)).tdiv (10 : Int))) && decide (W (((W (t.tmod (3600 : Int) + (3600 : Int))).tmod (3600 : Int)).tdiv (10 : Int)) < (91 : Int))) (chk true (decide ((0 : Nat) + (W (((W (t.tmod (3600 : Int) + (3600 : Int))).tmod (3600 : Int)).tdiv (10 : Int))).toNat * (1 : Nat) < (91 : Nat))) (some ((i64 ((q_qt ((0 : Nat) + (W (((W (t.tmod (3600 : Int) + (3600 : Int))).tmod (3600 : Int)).tdiv (10 : Int))).toNat * (1 : Nat)))), []))))) else (chk true (decide ((0 : Int) ≤ W (((W (t.tmod (3600 : Int) + (3600 : Int))).tmod (3600 : Int)).tdiv (10 : Int))) && decide (W (((W (t.tmod (3600 : Int) + (3600 : Int))).tmod (3600 : Int)).tdiv (10 : Int)) < (91 : Int))) (chk true (decide ((0 : Nat) + (W (((W (t.tmod (3600 : Int) + (3600 : Int))).tmod (3600 : Int)).tdiv (10 : Int))).toNat * (1 : Nat) < (91 : Nat))) (chk true (decide ((0 : Int) ≤ W (W (((W (t.tmod (3600 : Int) + (3600 : Int))).tmod (3600 : Int)).tdiv (10 : Int)) + (1 : Int))) && decide (W (W (((W (t.tmod (3600 : Int) + (3600 : Int))).tmod (3600 : Int)).tdiv (10 : Int)) + (1 : Int)) < (91 : Int))) (chk true (decide ((0 : Nat) + (W (W (((W (t.tmod (3600 : Int) + (3600 : Int))).tmod (3600 : Int)).tdiv (10 : Int)) + (1 : Int))).toNat * (1 : Nat) < (91 : Nat))) (some ((i64 ((W ((W (W (W (q_qt ((0 : Nat) + (W (((W (t.tmod (3600 : Int) + (3600 : Int))).tmod (3600 : Int)).tdiv (10 : Int))).toNat * (1 : Nat)) * W ((10 : Int) - ((W (t.tmod (3600 : Int) + (3600 : Int))).tmod (3600 : Int)).tmod (10 : Int))) + W (q_qt ((0 : Nat) + (W (W (((W (t.tmod (3600 : Int) + (3600 : Int))).tmod (3600 : Int)).tdiv (10 : Int)) + (1 : Int))).toNat * (1 : Nat)) * ((W (t.tmod (3600 : Int) + (3600 : Int))).tmod (3600 : Int)).tmod (10 : Int))) + (5 : Int))).tdiv (10 : Int)))), []))))))))))) := by kernel_rfl
theorem turn_in {t : Int} : W (t.tmod 3600 + 3600) = t.tmod 3600 + 3600 ∧ (t.tmod 3600 + 3600).tmod 3600 = t % 3600 := by
  have h := tmod_lt (a := t) (m := 3600) (by omega)
  exact ⟨W_id (by omega) (by omega), tmod_pos (by omega)⟩
theorem sq_eq (fl : Nat) (t : Int) (h : 0 ≤ t ∧ t ≤ 900) : callF prog gl noD fl noM 0 41 [i64 t] [] = some (i64 (q_sq t), []) := by
  rw [sine_raw0, turn_in.1, turn_in.2, show t % 3600 = t by omega]
  exact sq_raw t h _ _ _
theorem sine_eq (fl : Nat) (M : Orac) (t : Int) : callF prog gl noD fl (addM 41 aSq M) 0 41 [i64 t] [] = some (i64 (q_sn t), []) := by
  refine (sine_raw fl M t).trans ?_
  rw [turn_in.1, turn_in.2]
  have h1 := Int.emod_nonneg t (b := 3600) (by omega)
  have h2 := Int.emod_lt_of_pos t (b := 3600) (by omega)
  unfold q_sn
  generalize t % 3600 = u at *
  have s1 := sq_bound (3600 - u)
  have s2 := sq_bound (u - 1800)
  have s3 := sq_bound (1800 - u)
  by_cases c1 : u > 2700
  · rw [if_pos (by simpa using c1), if_pos c1, W_id (n := 3600 - u) (by omega) (by omega), if_pos (by simp; omega), W_id (by omega) (by omega), Int.zero_sub]
  · rw [if_neg c1]
    by_cases c2 : u > 1800
    · rw [if_neg (by simpa using c1), if_pos (by simpa using c2), if_pos c2, W_id (n := u - 1800) (by omega) (by omega), if_pos (by simp; omega), W_id (by omega) (by omega), Int.zero_sub]
    · rw [if_neg c2]
      by_cases c3 : u > 900
      · rw [if_neg (by simpa using c1), if_neg (by simpa using c2), if_pos (by simpa using c3), if_pos c3, W_id (n := 1800 - u) (by omega) (by omega), if_pos (by simp; omega)]
      · rw [if_neg c3]
        exact sq_raw u ⟨h1, by omega⟩ _ _ _
end Go.Proofs.YtfemkfodakfcmaaDoor.Sh
