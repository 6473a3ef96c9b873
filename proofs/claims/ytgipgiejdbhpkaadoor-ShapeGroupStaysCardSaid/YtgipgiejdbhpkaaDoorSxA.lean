import Derived.Test.YtgipgiejdbhpkaaDoorEv11
import Derived.Test.YtgipgiejdbhpkaaDoorProg
import Derived.KernelRfl
namespace Go.Proofs.YtgipgiejdbhpkaaDoor.Sh
open Go Go.RowKit Go.Proofs.YtgipgiejdbhpkaaDoor.Ev Go.Proofs.Tryd
abbrev i64 (n : Int) : PV := .one (.int .i64 n)
abbrev bl (b : Bool) : PV := .one (.bool b)
abbrev W (n : Int) : Int := IntKind.wrap .i64 n
theorem W_id {n : Int} (h : -9223372036854775808 ≤ n) (h2 : n ≤ 9223372036854775807) : W n = n := wrap_id h h2
noncomputable def noD : FuncId → PV := fun _ => i64 0
def qtab : List Int := [0, 1144, 2287, 3430, 4572, 5712, 6850, 7987, 9121, 10252, 11380, 12505, 13626, 14742, 15855, 16962, 18064, 19161, 20252, 21336, 22415, 23486, 24550, 25607, 26656, 27697, 28729, 29753, 30767, 31772, 32768, 33754, 34729, 35693, 36647, 37590, 38521, 39441, 40348, 41243, 42126, 42995, 43852, 44695, 45525, 46341, 47143, 47930, 48703, 49461, 50203, 50931, 51643, 52339, 53020, 53684, 54332, 54963, 55578, 56175, 56756, 57319, 57865, 58393, 58903, 59396, 59870, 60326, 60764, 61183, 61584, 61966, 62328, 62672, 62997, 63303, 63589, 63856, 64104, 64332, 64540, 64729, 64898, 65048, 65177, 65287, 65376, 65446, 65496, 65526, 65536]
def q_qt (n : Nat) : Int := qtab.getD n 0
noncomputable def gl : Globs := fun g => if g = 0 then some (.vp 91 (fun j => .int .i64 (q_qt j)) 0) else none
noncomputable def noM : Orac := fun _ _ _ _ => none
theorem chk_true {α : Type} {C p : Bool} {r : Option α} (h : p = true) : chk C p r = r := by unfold chk; rw [h]; rfl
theorem chk_no {α : Type} {C p : Bool} {r : Option α} (h : C = false) : chk C p r = r := by unfold chk; rw [h]; cases p <;> rfl
/-- Of at most k in amount: a test that is stuck at once where the number is not known. -/
def q_small (k : Nat) (a : Int) : Bool := match a with
  | .ofNat n => Nat.ble n k
  | .negSucc n => Nat.ble n k
theorem small_iff {k : Nat} {a : Int} : q_small k a = true ↔ -(k : Int) - 1 ≤ a ∧ a ≤ (k : Int) := by
  cases a with
  | ofNat n =>
    show Nat.ble n k = true ↔ _
    rw [Nat.ble_eq, Int.ofNat_eq_natCast]
    omega
  | negSucc n =>
    show Nat.ble n k = true ↔ _
    rw [Nat.ble_eq, Int.negSucc_eq]
    omega
/-! within -/
def q_within (v lo hi : Int) : Int := lo + v % (hi - lo + 1)
theorem within_raw (fl : Nat) (a b c : Int) : callF prog gl noD fl noM 0 8 [i64 a, i64 b, i64 c] [] = (chk true (W (W (c - b) + (1 : Int)) != (0 : Int)) (chk true (W (W (c - b) + (1 : Int)) != (0 : Int)) (some ((i64 ((W (b + (W (a.tmod (W (W (c - b) + (1 : Int))) + W (W (c - b) + (1 : Int)))).tmod (W (W (c - b) + (1 : Int)))))), []))))) := by kernel_rfl
theorem tmod_lt {a m : Int} (hm : 0 < m) : -m < a.tmod m ∧ a.tmod m < m := ⟨Int.lt_tmod_of_pos a hm, Int.tmod_lt_of_pos a hm⟩
theorem tmod_pos {a m : Int} (hm : 0 < m) : (a.tmod m + m).tmod m = a % m := by
  have h1 := tmod_lt (a := a) hm
  rw [Int.tmod_eq_emod_of_nonneg (by omega), Int.add_emod_right, Int.tmod_def, Int.sub_mul_emod_self_left]
theorem within_eq (fl : Nat) (a b c : Int) (h : q_small 1000000000 b = true ∧ q_small 1000000000 c = true ∧ b ≤ c) : callF prog gl noD fl noM 0 8 [i64 a, i64 b, i64 c] [] = some (i64 (q_within a b c), []) := by
  rw [within_raw]
  rw [small_iff, small_iff] at h
  have hm : W (W (c - b) + 1) = c - b + 1 := by rw [W_id (n := c - b) (by omega) (by omega), W_id (by omega) (by omega)]
  rw [hm]
  have h1 := tmod_lt (a := a) (m := c - b + 1) (by omega)
  have h2 := Int.emod_nonneg a (b := c - b + 1) (by omega)
  have h3 := Int.emod_lt_of_pos a (b := c - b + 1) (by omega)
  rw [W_id (n := a.tmod (c - b + 1) + (c - b + 1)) (by omega) (by omega), tmod_pos (by omega), W_id (by omega) (by omega), chk_true (by simp; omega), chk_true (by simp; omega)]
  rfl
def aWithin : Nat → List PV → Heap → Option (Bool × PV × Heap)
  | 0, [.one (.int .i64 a), .one (.int .i64 b), .one (.int .i64 c)], [] => some (q_small 1000000000 b && (q_small 1000000000 c && decide (b ≤ c)), i64 (q_within a b c), [])
  | _, _, _ => none
theorem mo : prog.follows .mixedOrders = true := by kernel_rfl
theorem add1 {g : FuncId} {A : Nat → List PV → Heap → Option (Bool × PV × Heap)} {M : Orac} (hM : Sound prog gl M) (h : ∀ nb vs H v H', A nb vs H = some (true, v, H') → ∃ fl, callF prog gl noD fl M nb g vs H = some (v, H')) : Sound prog gl (addM g A M) := add_ok (D := noD) hM hM mo h
set_option maxRecDepth 1000000
set_option linter.unusedVariables false
noncomputable def O1 : Orac := addM 8 aWithin noM
theorem sO1 : Sound prog gl O1 := add1 none_ok (fun nb vs H v H' h => by
  unfold aWithin at h
  split at h
  · rename_i a b c
    obtain ⟨h1, h2, h3⟩ : (q_small 1000000000 b = true ∧ q_small 1000000000 c = true ∧ b ≤ c) ∧ i64 (q_within a b c) = v ∧ [] = H' := by simpa using h
    subst h2 h3
    exact ⟨1, within_eq 1 a b c h1⟩
  · cases h)
/-! tools -/
noncomputable def q_dec (p : Prop) : Bool := @decide p (Classical.propDecidable p)
theorem q_dec_iff {p : Prop} : q_dec p = true ↔ p := by unfold q_dec; simp
theorem W_nat {i : Nat} (h : i < 9223372036854775807) : W ((i : Int) + 1) = ((i + 1 : Nat) : Int) := by rw [W_id (by omega) (by omega)]; omega
theorem bmax {a b : Int} : (bif decide (a > b) then a else b) = max b a := by by_cases h : a > b <;> simp [h] <;> omega
theorem bmin {a b : Int} : (bif decide (a < b) then a else b) = min b a := by by_cases h : a < b <;> simp [h] <;> omega
theorem within_in (v lo hi : Int) (h : lo ≤ hi) : lo ≤ q_within v lo hi ∧ q_within v lo hi ≤ hi := by
  unfold q_within
  have h2 := Int.emod_nonneg v (b := hi - lo + 1) (by omega)
  have h3 := Int.emod_lt_of_pos v (b := hi - lo + 1) (by omega)
  omega
/-- A row of e whole numbers; what lies behind them is J. -/
def rj (e : Nat) (B : Nat → Nat → Int) (J : Nat → Nat → PS) : Nat → Nat → PS := fun i j => if j < e then .int .i64 (B i j) else J i j
/-- A row of truth values. -/
def rb (b : Nat → Bool) (J : Nat → Nat → PS) : Nat → Nat → PS := fun i j => if j < 1 then .bool (b i) else J i j
theorem rj_in {e : Nat} {B : Nat → Nat → Int} {J : Nat → Nat → PS} {i j : Nat} (h : j < e) : rj e B J i j = .int .i64 (B i j) := if_pos h
def appB (n : Nat) (B : Nat → Nat → Int) (l : List Int) : Nat → Nat → Int := fun i j => if i < n then B i j else l.getD j 0
theorem app_rj (e n : Nat) (B : Nat → Nat → Int) (J : Nat → Nat → PS) (l : List Int) (he : l.length = e) : ∃ J', appRow n (rj e B J) (litRow e (l.map (PS.int .i64))) = rj e (appB n B l) J' := by
  refine ⟨fun i j => if i < n then J i j else .nilp, ?_⟩
  funext i j
  rw [appRow_eq]
  unfold rj appB litRow
  by_cases hi : i < n
  · simp [hi]
  · by_cases hj : j < e
    · simp [hi, hj, he, List.getD_eq_getElem?_getD]
    · simp [hi, hj, he, List.getD_eq_getElem?_getD]
def putB (B : Nat → Nat → Int) (i o : Nat) (x : Int) : Nat → Nat → Int := fun i1 j1 => if i1 = i ∧ j1 = o then x else B i1 j1
theorem put_rj (e : Nat) (B : Nat → Nat → Int) (J : Nat → Nat → PS) (i o : Nat) (x : Int) (ho : o < e) : putRow (rj e B J) i o [.int .i64 x] = rj e (putB B i o x) J := by
  funext i1 j1
  rw [putRow_eq]
  unfold rj putB
  by_cases h1 : i1 = i
  · by_cases h2 : j1 = o
    · subst h1 h2
      simp [ho]
    · have : ¬ (o ≤ j1 ∧ j1 < o + 1) := by omega
      simp [h1, h2]
      intro a b; omega
  · simp [h1]
theorem app_rb (n : Nat) (b : Nat → Bool) (J : Nat → Nat → PS) (x : Bool) : ∃ J', appRow n (rb b J) (litRow 1 [.bool x]) = rb (fun i => if i < n then b i else x) J' := by
  refine ⟨fun i j => if i < n then J i j else .nilp, ?_⟩
  funext i j
  rw [appRow_eq]
  unfold rb litRow
  by_cases hi : i < n
  · simp [hi]
  · by_cases hj : j < 1
    · obtain rfl : j = 0 := by omega
      simp [hi]
    · obtain ⟨j, rfl⟩ : ∃ j', j = j' + 1 := ⟨j - 1, by omega⟩
      simp [hi]
theorem put_rb (b : Nat → Bool) (J : Nat → Nat → PS) (i : Nat) (x : Bool) : putRow (rb b J) i 0 [.bool x] = rb (fun k => if k = i then x else b k) J := by
  funext i1 j
  rw [putRow_eq]
  unfold rb
  by_cases h1 : i1 = i
  · by_cases hj : j < 1
    · obtain rfl : j = 0 := by omega
      simp [h1]
    · simp [h1, hj]
  · simp [h1]
theorem qt_bound (n : Nat) : 0 ≤ q_qt n ∧ q_qt n ≤ 65536 := by
  have key : ∀ l : List Int, (l.all fun x => decide (0 ≤ x) && decide (x ≤ 65536)) = true → ∀ n, 0 ≤ l.getD n 0 ∧ l.getD n 0 ≤ 65536 := by
    intro l
    induction l with
    | nil => intro _ n; simp
    | cons a l ih =>
      intro h n
      simp only [List.all_cons, Bool.and_eq_true, decide_eq_true_eq] at h
      cases n with
      | zero => simpa using h.1
      | succ n => simpa using ih h.2 n
  exact key qtab (by decide) n
/-! round -/
def q_round (a b : Int) : Int := (2 * a + b) / (2 * b)
theorem round_raw (fl : Nat) (a b : Int) : callF prog gl noD fl noM 0 20 [i64 a, i64 b] [] = (chk true (W (b * (2 : Int)) != (0 : Int)) (chk true (W (b * (2 : Int)) != (0 : Int)) (if (decide ((W (W ((2 : Int) * a) + b)).tmod (W (b * (2 : Int))) < (0 : Int))) = true then (some ((i64 ((W (W ((W (W ((2 : Int) * a) + b)).tdiv (W (b * (2 : Int)))) - (1 : Int)))), []))) else (some ((i64 ((W ((W (W ((2 : Int) * a) + b)).tdiv (W (b * (2 : Int)))))), [])))))) := by kernel_rfl
theorem tdiv_floor {a b : Int} (hb : 0 < b) : (if a.tmod b < 0 then a.tdiv b - 1 else a.tdiv b) = a / b := by
  have h1 := Int.tmod_add_mul_tdiv a b
  have h2 := tmod_lt (a := a) hb
  have h3 : (a.tdiv b - 1) * b = b * a.tdiv b - b := by rw [Int.sub_mul, Int.mul_comm]; omega
  have h4 : a.tdiv b * b = b * a.tdiv b := Int.mul_comm _ _
  split
  · symm
    rw [Int.ediv_eq_iff_of_pos hb]
    constructor <;> omega
  · symm
    rw [Int.ediv_eq_iff_of_pos hb]
    constructor <;> omega
theorem round_eq (fl : Nat) (a b : Int) (h : q_small 1000000000000000000 a = true ∧ q_small 1000000000000000000 b = true ∧ 0 < b) : callF prog gl noD fl noM 0 20 [i64 a, i64 b] [] = some (i64 (q_round a b), []) := by
  rw [round_raw]
  rw [small_iff, small_iff] at h
  rw [W_id (n := 2 * a) (by omega) (by omega), W_id (n := 2 * a + b) (by omega) (by omega), W_id (n := b * 2) (by omega) (by omega), chk_true (by simp; omega), chk_true (by simp; omega)]
  have h1 := tdiv_floor (a := 2 * a + b) (b := b * 2) (by omega)
  have h2 : -(1000000000000000000 * 3) ≤ (2 * a + b).tdiv (b * 2) ∧ (2 * a + b).tdiv (b * 2) ≤ 1000000000000000000 * 3 := by
    have h3 := Int.natAbs_tdiv_le_natAbs (2 * a + b) (b * 2)
    omega
  unfold q_round
  rw [show 2 * b = b * 2 by omega, ← h1]
  by_cases hc : (2 * a + b).tmod (b * 2) < 0
  · rw [if_pos (by simpa using hc), if_pos hc, W_id (n := (2 * a + b).tdiv (b * 2)) (by omega) (by omega), W_id (by omega) (by omega)]
  · rw [if_neg (by simpa using hc), if_neg hc, W_id (by omega) (by omega)]
def aRound : Nat → List PV → Heap → Option (Bool × PV × Heap)
  | 0, [.one (.int .i64 a), .one (.int .i64 b)], [] => some (q_small 1000000000000000000 a && (q_small 1000000000000000000 b && decide (0 < b)), i64 (q_round a b), [])
  | _, _, _ => none
/-! sine -/
def q_sq (t : Int) : Int := if t % 10 = 0 then q_qt (t / 10).toNat else (q_qt (t / 10).toNat * (10 - t % 10) + q_qt (t / 10 + 1).toNat * (t % 10) + 5) / 10
def q_sn (t : Int) : Int := if t % 3600 > 2700 then -q_sq (3600 - t % 3600) else if t % 3600 > 1800 then -q_sq (t % 3600 - 1800) else if t % 3600 > 900 then q_sq (1800 - t % 3600) else q_sq (t % 3600)
def aSq : Nat → List PV → Heap → Option (Bool × PV × Heap)
  | 0, [.one (.int .i64 a)], [] => some (decide (0 ≤ a ∧ a ≤ 900), i64 (q_sq a), [])
  | _, _, _ => none
theorem sine_raw (fl : Nat) (M : Orac) (t : Int) : callF prog gl noD fl (addM 31 aSq M) 0 31 [i64 t] [] = (if (decide ((W (t.tmod (3600 : Int) + (3600 : Int))).tmod (3600 : Int) > (2700 : Int))) = true then (if (decide ((0 : Int) ≤ W ((3600 : Int) - (W (t.tmod (3600 : Int) + (3600 : Int))).tmod (3600 : Int)) ∧ W ((3600 : Int) - (W (t.tmod (3600 : Int) + (3600 : Int))).tmod (3600 : Int)) ≤ (900 : Int))) = true then (some ((i64 ((W ((0 : Int) - q_sq (W ((3600 : Int) - (W (t.tmod (3600 : Int) + (3600 : Int))).tmod (3600 : Int)))))), []))) else none) else (if (decide ((W (t.tmod (3600 : Int) + (3600 : Int))).tmod (3600 : Int) > (1800 : Int))) = true then (if (decide ((0 : Int) ≤ W ((W (t.tmod (3600 : Int) + (3600 : Int))).tmod (3600 : Int) - (1800 : Int)) ∧ W ((W (t.tmod (3600 : Int) + (3600 : Int))).tmod (3600 : Int) - (1800 : Int)) ≤ (900 : Int))) = true then (some ((i64 ((W ((0 : Int) - q_sq (W ((W (t.tmod (3600 : Int) + (3600 : Int))).tmod (3600 : Int) - (1800 : Int)))))), []))) else none) else (if (decide ((W (t.tmod (3600 : Int) + (3600 : Int))).tmod (3600 : Int) > (900 : Int))) = true then (if (decide ((0 : Int) ≤ W ((1800 : Int) - (W (t.tmod (3600 : Int) + (3600 : Int))).tmod (3600 : Int)) ∧ W ((1800 : Int) - (W (t.tmod (3600 : Int) + (3600 : Int))).tmod (3600 : Int)) ≤ (900 : Int))) = true then (some ((i64 ((q_sq (W ((1800 : Int) - (W (t.tmod (3600 : Int) + (3600 : Int))).tmod (3600 : Int))))), []))) else none) else (if (((W (t.tmod (3600 : Int) + (3600 : Int))).tmod (3600 : Int)).tmod (10 : Int) == (0 : Int)) = true then (chk true (decide ((0 : Int) ≤ W (((W (t.tmod (3600 : Int) + (3600 : Int))).tmod (3600 : Int)).tdiv (10 : Int))) && decide (W (((W (t.tmod (3600 : Int) + (3600 : Int))).tmod (3600 : Int)).tdiv (10 : Int)) < (91 : Int))) (chk true (decide ((0 : Nat) + (W (((W (t.tmod (3600 : Int) + (3600 : Int))).tmod (3600 : Int)).tdiv (10 : Int))).toNat * (1 : Nat) < (91 : Nat))) (some ((i64 ((q_qt ((0 : Nat) + (W (((W (t.tmod (3600 : Int) + (3600 : Int))).tmod (3600 : Int)).tdiv (10 : Int))).toNat * (1 : Nat)))), []))))) else (chk true (decide ((0 : Int) ≤ W (((W (t.tmod (3600 : Int) + (3600 : Int))).tmod (3600 : Int)).tdiv (10 : Int))) && decide (W (((W (t.tmod (3600 : Int) + (3600 : Int))).tmod (3600 : Int)).tdiv (10 : Int)) < (91 : Int))) (chk true (decide ((0 : Nat) + (W (((W (t.tmod (3600 : Int) + (3600 : Int))).tmod (3600 : Int)).tdiv (10 : Int))).toNat * (1 : Nat) < (91 : Nat))) (chk true (decide ((0 : Int) ≤ W (W (((W (t.tmod (3600 : Int) + (3600 : Int))).tmod (3600 : Int)).tdiv (10 : Int)) + (1 : Int))) && decide (W (W (((W (t.tmod (3600 : Int) + (3600 : Int))).tmod (3600 : Int)).tdiv (10 : Int)) + (1 : Int)) < (91 : Int))) (chk true (decide ((0 : Nat) + (W (W (((W (t.tmod (3600 : Int) + (3600 : Int))).tmod (3600 : Int)).tdiv (10 : Int)) + (1 : Int))).toNat * (1 : Nat) < (91 : Nat))) (some ((i64 ((W ((W (W (W (q_qt ((0 : Nat) + (W (((W (t.tmod (3600 : Int) + (3600 : Int))).tmod (3600 : Int)).tdiv (10 : Int))).toNat * (1 : Nat)) * W ((10 : Int) - ((W (t.tmod (3600 : Int) + (3600 : Int))).tmod (3600 : Int)).tmod (10 : Int))) + W (q_qt ((0 : Nat) + (W (W (((W (t.tmod (3600 : Int) + (3600 : Int))).tmod (3600 : Int)).tdiv (10 : Int)) + (1 : Int))).toNat * (1 : Nat)) * ((W (t.tmod (3600 : Int) + (3600 : Int))).tmod (3600 : Int)).tmod (10 : Int))) + (5 : Int))).tdiv (10 : Int)))), []))))))))))) := by kernel_rfl
theorem sq_bound (t : Int) : -1 ≤ q_sq t ∧ q_sq t ≤ 65537 := by
  unfold q_sq
  have h1 := qt_bound (t / 10).toNat
  have h2 := qt_bound (t / 10 + 1).toNat
  split
  · omega
  · have h3 := Int.emod_nonneg t (b := 10) (by omega)
    have h4 := Int.emod_lt_of_pos t (b := 10) (by omega)
    generalize q_qt (t / 10).toNat = x at *
    generalize q_qt (t / 10 + 1).toNat = y at *
    generalize t % 10 = r at *
    have : r = 0 ∨ r = 1 ∨ r = 2 ∨ r = 3 ∨ r = 4 ∨ r = 5 ∨ r = 6 ∨ r = 7 ∨ r = 8 ∨ r = 9 := by omega
    rcases this with rfl | rfl | rfl | rfl | rfl | rfl | rfl | rfl | rfl | rfl <;> omega
theorem sn_bound (t : Int) : -65537 ≤ q_sn t ∧ q_sn t ≤ 65537 := by
  unfold q_sn
  have h1 := sq_bound (3600 - t % 3600)
  have h2 := sq_bound (t % 3600 - 1800)
  have h3 := sq_bound (1800 - t % 3600)
  have h4 := sq_bound (t % 3600)
  split
  · omega
  · split
    · omega
    · split <;> omega
def aSine : Nat → List PV → Heap → Option (Bool × PV × Heap)
  | 0, [.one (.int .i64 a)], [] => some (q_small 1000000 a, i64 (q_sn a), [])
  | _, _, _ => none
/-- Where no call is met. -/
theorem sq_raw (u : Int) (h : 0 ≤ u ∧ u ≤ 900) (X Y Z : Option (PV × Heap)) : (if (decide (u > 2700)) = true then X else (if (decide (u > 1800)) = true then Y else (if (decide (u > 900)) = true then Z else (if (u.tmod 10 == 0) = true then (chk true (decide (0 ≤ W (u.tdiv 10)) && decide (W (u.tdiv 10) < 91)) (chk true (decide (0 + (W (u.tdiv 10)).toNat * 1 < 91)) (some (i64 (q_qt (0 + (W (u.tdiv 10)).toNat * 1)), [])))) else (chk true (decide (0 ≤ W (u.tdiv 10)) && decide (W (u.tdiv 10) < 91)) (chk true (decide (0 + (W (u.tdiv 10)).toNat * 1 < 91)) (chk true (decide (0 ≤ W (W (u.tdiv 10) + 1)) && decide (W (W (u.tdiv 10) + 1) < 91)) (chk true (decide (0 + (W (W (u.tdiv 10) + 1)).toNat * 1 < 91)) (some (i64 (W ((W (W (W (q_qt (0 + (W (u.tdiv 10)).toNat * 1) * W (10 - u.tmod 10)) + W (q_qt (0 + (W (W (u.tdiv 10) + 1)).toNat * 1) * u.tmod 10)) + 5)).tdiv 10)), [])))))))))) = some (i64 (q_sq u), ([] : Heap)) := by
  rw [if_neg (by simp; omega), if_neg (by simp; omega), if_neg (by simp; omega)]
  have e1 : u.tmod 10 = u % 10 := Int.tmod_eq_emod_of_nonneg h.1
  have e2 : u.tdiv 10 = u / 10 := Int.tdiv_eq_ediv_of_nonneg h.1
  rw [e1, e2]
  have w1 : W (u / 10) = u / 10 := W_id (by omega) (by omega)
  rw [w1]
  have w2 : W (u / 10 + 1) = u / 10 + 1 := W_id (by omega) (by omega)
  rw [w2]
  unfold q_sq
  rw [chk_true (by simp; omega), chk_true (by simp; omega)]
  have e3 : 0 + (u / 10).toNat * 1 = (u / 10).toNat := by omega
  have e4 : 0 + (u / 10 + 1).toNat * 1 = (u / 10 + 1).toNat := by omega
  rw [e3, e4]
  by_cases hc : u % 10 = 0
  · rw [if_pos (by simpa using hc), if_pos hc]
  · rw [if_neg (by simpa using hc), if_neg hc]
    rw [chk_true (by simp; omega), chk_true (by simp; omega), chk_true (by simp; omega), chk_true (by simp; omega)]
    have h1 := qt_bound (u / 10).toNat
    have h2 := qt_bound (u / 10 + 1).toNat
    generalize q_qt (u / 10).toNat = x at *
    generalize q_qt (u / 10 + 1).toNat = y at *
    have h3 : 0 ≤ u % 10 ∧ u % 10 ≤ 9 := by omega
    generalize u % 10 = r at *
    have key : W ((W (W (W (x * W (10 - r)) + W (y * r)) + 5)).tdiv 10) = (x * (10 - r) + y * r + 5) / 10 := by
      have : r = 0 ∨ r = 1 ∨ r = 2 ∨ r = 3 ∨ r = 4 ∨ r = 5 ∨ r = 6 ∨ r = 7 ∨ r = 8 ∨ r = 9 := by omega
      rw [W_id (n := 10 - r) (by omega) (by omega)]
      have b1 : 0 ≤ x * (10 - r) ∧ x * (10 - r) ≤ 655360 := by rcases this with rfl | rfl | rfl | rfl | rfl | rfl | rfl | rfl | rfl | rfl <;> omega
      have b2 : 0 ≤ y * r ∧ y * r ≤ 655360 := by rcases this with rfl | rfl | rfl | rfl | rfl | rfl | rfl | rfl | rfl | rfl <;> omega
      generalize x * (10 - r) = p at *
      generalize y * r = q at *
      rw [W_id (n := p) (by omega) (by omega), W_id (n := q) (by omega) (by omega), W_id (n := p + q) (by omega) (by omega), W_id (n := p + q + 5) (by omega) (by omega), Int.tdiv_eq_ediv_of_nonneg (by omega), W_id (by omega) (by omega)]
    rw [key]
theorem sine_raw0 (fl : Nat) (t : Int) : callF prog gl noD fl noM 0 31 [i64 t] [] = (if (decide ((W (t.tmod (3600 : Int) + (3600 : Int))).tmod (3600 : Int) > (2700 : Int))) = true then none else (if (decide ((W (t.tmod (3600 : Int) + (3600 : Int))).tmod (3600 : Int) > (1800 : Int))) = true then none else (if (decide ((W (t.tmod (3600 : Int) + (3600 : Int))).tmod (3600 : Int) > (900 : Int))) = true then none else (if (((W (t.tmod (3600 : Int) + (3600 : Int))).tmod (3600 : Int)).tmod (10 : Int) == (0 : Int)) = true then (chk true (decide ((0 : Int) ≤ W (((W (t.tmod (3600 : Int) + (3600 : Int))).tmod (3600 : Int)).tdiv (10 : Int))) && decide (W (((W (t.tmod (3600 : Int) + (3600 : Int))).tmod (3600 : Int)).tdiv (10 : Int)) < (91 : Int))) (chk true (decide ((0 : Nat) + (W (((W (t.tmod (3600 : Int) + (3600 : Int))).tmod (3600 : Int)).tdiv (10 : Int))).toNat * (1 : Nat) < (91 : Nat))) (some ((i64 ((q_qt ((0 : Nat) + (W (((W (t.tmod (3600 : Int) + (3600 : Int))).tmod (3600 : Int)).tdiv (10 : Int))).toNat * (1 : Nat)))), []))))) else (chk true (decide ((0 : Int) ≤ W (((W (t.tmod (3600 : Int) + (3600 : Int))).tmod (3600 : Int)).tdiv (10 : Int))) && decide (W (((W (t.tmod (3600 : Int) + (3600 : Int))).tmod (3600 : Int)).tdiv (10 : Int)) < (91 : Int))) (chk true (decide ((0 : Nat) + (W (((W (t.tmod (3600 : Int) + (3600 : Int))).tmod (3600 : Int)).tdiv (10 : Int))).toNat * (1 : Nat) < (91 : Nat))) (chk true (decide ((0 : Int) ≤ W (W (((W (t.tmod (3600 : Int) + (3600 : Int))).tmod (3600 : Int)).tdiv (10 : Int)) + (1 : Int))) && decide (W (W (((W (t.tmod (3600 : Int) + (3600 : Int))).tmod (3600 : Int)).tdiv (10 : Int)) + (1 : Int)) < (91 : Int))) (chk true (decide ((0 : Nat) + (W (W (((W (t.tmod (3600 : Int) + (3600 : Int))).tmod (3600 : Int)).tdiv (10 : Int)) + (1 : Int))).toNat * (1 : Nat) < (91 : Nat))) (some ((i64 ((W ((W (W (W (q_qt ((0 : Nat) + (W (((W (t.tmod (3600 : Int) + (3600 : Int))).tmod (3600 : Int)).tdiv (10 : Int))).toNat * (1 : Nat)) * W ((10 : Int) - ((W (t.tmod (3600 : Int) + (3600 : Int))).tmod (3600 : Int)).tmod (10 : Int))) + W (q_qt ((0 : Nat) + (W (W (((W (t.tmod (3600 : Int) + (3600 : Int))).tmod (3600 : Int)).tdiv (10 : Int)) + (1 : Int))).toNat * (1 : Nat)) * ((W (t.tmod (3600 : Int) + (3600 : Int))).tmod (3600 : Int)).tmod (10 : Int))) + (5 : Int))).tdiv (10 : Int)))), []))))))))))) := by kernel_rfl
theorem turn_in {t : Int} : W (t.tmod 3600 + 3600) = t.tmod 3600 + 3600 ∧ (t.tmod 3600 + 3600).tmod 3600 = t % 3600 := by
  have h := tmod_lt (a := t) (m := 3600) (by omega)
  exact ⟨W_id (by omega) (by omega), tmod_pos (by omega)⟩
theorem sq_eq (fl : Nat) (t : Int) (h : 0 ≤ t ∧ t ≤ 900) : callF prog gl noD fl noM 0 31 [i64 t] [] = some (i64 (q_sq t), []) := by
  rw [sine_raw0, turn_in.1, turn_in.2, show t % 3600 = t by omega]
  exact sq_raw t h _ _ _
theorem sine_eq (fl : Nat) (M : Orac) (t : Int) : callF prog gl noD fl (addM 31 aSq M) 0 31 [i64 t] [] = some (i64 (q_sn t), []) := by
  refine (sine_raw fl M t).trans ?_
  rw [turn_in.1, turn_in.2]
  have h1 := Int.emod_nonneg t (b := 3600) (by omega)
  have h2 := Int.emod_lt_of_pos t (b := 3600) (by omega)
  unfold q_sn
  generalize t % 3600 = u at *
  have s1 := sq_bound (3600 - u)
  have s2 := sq_bound (u - 1800)
  have s3 := sq_bound (1800 - u)
  by_cases c1 : u > 2700
  · rw [if_pos (by simpa using c1), if_pos c1, W_id (n := 3600 - u) (by omega) (by omega), if_pos (by simp; omega), W_id (by omega) (by omega), Int.zero_sub]
  · rw [if_neg c1]
    by_cases c2 : u > 1800
    · rw [if_neg (by simpa using c1), if_pos (by simpa using c2), if_pos c2, W_id (n := u - 1800) (by omega) (by omega), if_pos (by simp; omega), W_id (by omega) (by omega), Int.zero_sub]
    · rw [if_neg c2]
      by_cases c3 : u > 900
      · rw [if_neg (by simpa using c1), if_neg (by simpa using c2), if_pos (by simpa using c3), if_pos c3, W_id (n := 1800 - u) (by omega) (by omega), if_pos (by simp; omega)]
      · rw [if_neg c3]
        exact sq_raw u ⟨h1, by omega⟩ _ _ _
noncomputable def Oq : Orac := addM 31 aSq noM
theorem sOq : Sound prog gl Oq := add_ok (D := noD) none_ok none_ok mo (fun nb vs H v H' h => by
  unfold aSq at h
  split at h
  · rename_i a
    obtain ⟨h1, h2, h3⟩ : decide (0 ≤ a ∧ a ≤ 900) = true ∧ i64 (q_sq a) = v ∧ [] = H' := by simpa using h
    subst h2 h3
    exact ⟨1, sq_eq 1 a (by simpa using h1)⟩
  · cases h)
noncomputable def O2 : Orac := addM 31 aSine (addM 20 aRound O1)
theorem sO2 : Sound prog gl O2 := by
  refine add_ok (D := noD) (N := Oq) (add_ok (D := noD) (N := noM) sO1 none_ok mo ?_) sOq mo ?_
  · intro nb vs H v H' h
    unfold aRound at h
    split at h
    · rename_i a b
      obtain ⟨h1, h2, h3⟩ : (q_small 1000000000000000000 a = true ∧ q_small 1000000000000000000 b = true ∧ 0 < b) ∧ i64 (q_round a b) = v ∧ [] = H' := by simpa using h
      subst h2 h3
      exact ⟨1, round_eq 1 a b h1⟩
    · cases h
  · intro nb vs H v H' h
    unfold aSine at h
    split at h
    · rename_i a
      obtain ⟨_, h2, h3⟩ : q_small 1000000 a = true ∧ i64 (q_sn a) = v ∧ [] = H' := by simpa using h
      subst h2 h3
      exact ⟨1, sine_eq 1 noM a⟩
    · cases h
/-! turned -/
def q_tx (x y cx cy t : Int) : Int := q_round (cx * 65536 + (2 * x - cx) * q_sn (t + 900) - (2 * y - cy) * q_sn t) 131072
def q_ty (x y cx cy t : Int) : Int := q_round (cy * 65536 + (2 * x - cx) * q_sn t + (2 * y - cy) * q_sn (t + 900)) 131072
theorem turned_raw (fl : Nat) (x y cx cy t : Int) : callF prog gl noD fl O2 0 19 [i64 x, i64 y, i64 cx, i64 cy, i64 t] [] = (if (q_small (1000000 : Nat) t) = true then (if (q_small (1000000 : Nat) (W (t + (900 : Int)))) = true then (if (q_small (1000000000000000000 : Nat) (W (W (W (cx * (65536 : Int)) + W (W (W ((2 : Int) * x) - cx) * q_sn (W (t + (900 : Int))))) - W (W (W ((2 : Int) * y) - cy) * q_sn t))) && true) = true then (if (q_small (1000000000000000000 : Nat) (W (W (W (cy * (65536 : Int)) + W (W (W ((2 : Int) * x) - cx) * q_sn t)) + W (W (W ((2 : Int) * y) - cy) * q_sn (W (t + (900 : Int)))))) && true) = true then (some ((PV.tup [i64 ((q_round (W (W (W (cx * (65536 : Int)) + W (W (W ((2 : Int) * x) - cx) * q_sn (W (t + (900 : Int))))) - W (W (W ((2 : Int) * y) - cy) * q_sn t))) (131072 : Int))), i64 ((q_round (W (W (W (cy * (65536 : Int)) + W (W (W ((2 : Int) * x) - cx) * q_sn t)) + W (W (W ((2 : Int) * y) - cy) * q_sn (W (t + (900 : Int)))))) (131072 : Int)))], []))) else none) else none) else none) else none) := by kernel_rfl
theorem mul_bd {a b A B : Int} (hA : 0 ≤ A) (hB : 0 ≤ B) (ha : -A ≤ a ∧ a ≤ A) (hb : -B ≤ b ∧ b ≤ B) : -(A * B) ≤ a * b ∧ a * b ≤ A * B := by
  have h1 : a.natAbs ≤ A.natAbs := by omega
  have h2 : b.natAbs ≤ B.natAbs := by omega
  have h3 : (a * b).natAbs ≤ A.natAbs * B.natAbs := by rw [Int.natAbs_mul]; exact Nat.mul_le_mul h1 h2
  have h4 : ((A.natAbs * B.natAbs : Nat) : Int) = A * B := by rw [Int.natCast_mul, Int.natAbs_of_nonneg hA, Int.natAbs_of_nonneg hB]
  omega
theorem turned_eq (fl : Nat) (x y cx cy t : Int) (h : q_small 1000000000000 x = true ∧ q_small 1000000000000 y = true ∧ q_small 1000000000000 cx = true ∧ q_small 1000000000000 cy = true ∧ q_small 900000 t = true) : callF prog gl noD fl O2 0 19 [i64 x, i64 y, i64 cx, i64 cy, i64 t] [] = some (.tup [i64 (q_tx x y cx cy t), i64 (q_ty x y cx cy t)], []) := by
  rw [turned_raw]
  simp only [small_iff] at h
  have wt : W (t + 900) = t + 900 := W_id (by omega) (by omega)
  rw [wt]
  unfold q_tx q_ty
  have s1 := sn_bound t
  have s2 := sn_bound (t + 900)
  generalize q_sn t = s at *
  generalize q_sn (t + 900) = c at *
  rw [W_id (n := 2 * x) (by omega) (by omega), W_id (n := 2 * y) (by omega) (by omega), W_id (n := 2 * x - cx) (by omega) (by omega), W_id (n := 2 * y - cy) (by omega) (by omega), W_id (n := cx * 65536) (by omega) (by omega), W_id (n := cy * 65536) (by omega) (by omega)]
  have dx : -4000000000000 ≤ 2 * x - cx ∧ 2 * x - cx ≤ 4000000000000 := by omega
  have dy : -4000000000000 ≤ 2 * y - cy ∧ 2 * y - cy ≤ 4000000000000 := by omega
  have b1 := mul_bd (by omega) (by omega) dx s1
  have b2 := mul_bd (by omega) (by omega) dx s2
  have b3 := mul_bd (by omega) (by omega) dy s1
  have b4 := mul_bd (by omega) (by omega) dy s2
  generalize (2 * x - cx) * s = p1 at *
  generalize (2 * x - cx) * c = p2 at *
  generalize (2 * y - cy) * s = p3 at *
  generalize (2 * y - cy) * c = p4 at *
  rw [W_id (n := p1) (by omega) (by omega), W_id (n := p2) (by omega) (by omega), W_id (n := p3) (by omega) (by omega), W_id (n := p4) (by omega) (by omega), W_id (n := cx * 65536 + p2) (by omega) (by omega), W_id (n := cy * 65536 + p1) (by omega) (by omega), W_id (n := cx * 65536 + p2 - p3) (by omega) (by omega), W_id (n := cy * 65536 + p1 + p4) (by omega) (by omega)]
  have t0 : q_small 1000000 t = true := small_iff.2 (by omega)
  have t1 : q_small 1000000 (t + 900) = true := small_iff.2 (by omega)
  have t2 : q_small 1000000000000000000 (cx * 65536 + p2 - p3) = true := small_iff.2 (by omega)
  have t3 : q_small 1000000000000000000 (cy * 65536 + p1 + p4) = true := small_iff.2 (by omega)
  rw [if_pos t0, if_pos t1, t2, t3]
  rfl
def aTurned : Nat → List PV → Heap → Option (Bool × PV × Heap)
  | 0, [.one (.int .i64 x), .one (.int .i64 y), .one (.int .i64 cx), .one (.int .i64 cy), .one (.int .i64 t)], [] => some (q_small 1000000000000 x && (q_small 1000000000000 y && (q_small 1000000000000 cx && (q_small 1000000000000 cy && q_small 900000 t))), .tup [i64 (q_tx x y cx cy t), i64 (q_ty x y cx cy t)], [])
  | _, _, _ => none
noncomputable def O3 : Orac := addM 19 aTurned O2
theorem sO3 : Sound prog gl O3 := add_ok (D := noD) sO2 sO2 mo (fun nb vs H v H' h => by
  unfold aTurned at h
  split at h
  · rename_i x y cx cy t
    obtain ⟨h1, h2, h3⟩ : (q_small 1000000000000 x = true ∧ q_small 1000000000000 y = true ∧ q_small 1000000000000 cx = true ∧ q_small 1000000000000 cy = true ∧ q_small 900000 t = true) ∧ .tup [i64 (q_tx x y cx cy t), i64 (q_ty x y cx cy t)] = v ∧ [] = H' := by simpa using h
    subst h2 h3
    exact ⟨1, turned_eq 1 x y cx cy t h1⟩
  · cases h)
end Go.Proofs.YtgipgiejdbhpkaaDoor.Sh
