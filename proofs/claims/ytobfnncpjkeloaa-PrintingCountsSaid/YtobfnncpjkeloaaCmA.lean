import Derived.Test.YtobfnncpjkeloaaEv11
import Derived.Test.YtobfnncpjkeloaaProg
import Derived.KernelRfl
namespace Go.Proofs.Ytobfnncpjkeloaa.Sh
open Go Go.RowKit Go.Proofs.Ytobfnncpjkeloaa.Ev Go.Proofs.Try
abbrev i64 (n : Int) : PV := .one (.int .i64 n)
abbrev bl (b : Bool) : PV := .one (.bool b)
abbrev W (n : Int) : Int := IntKind.wrap .i64 n
theorem W_id {n : Int} (h : -9223372036854775808 ≤ n) (h2 : n ≤ 9223372036854775807) : W n = n := wrap_id h h2
noncomputable def noD : FuncId → PV := fun _ => i64 0
noncomputable def gl : Globs := fun _ => none
noncomputable def noM : Orac := fun _ _ _ _ => none
theorem chk_true {α : Type} {C p : Bool} {r : Option α} (h : p = true) : chk C p r = r := by unfold chk; rw [h]; rfl
theorem chk_no {α : Type} {C p : Bool} {r : Option α} (h : C = false) : chk C p r = r := by unfold chk; rw [h]; cases p <;> rfl
/-- Of at most k in amount: a test that is stuck at once where the number is not known. -/
def q_small (k : Nat) (a : Int) : Bool := match a with
  | .ofNat n => Nat.ble n k
  | .negSucc n => Nat.ble n k
theorem small_iff {k : Nat} {a : Int} : q_small k a = true ↔ -(k : Int) - 1 ≤ a ∧ a ≤ (k : Int) := by
  cases a with
  | ofNat n =>
    show Nat.ble n k = true ↔ _
    rw [Nat.ble_eq, Int.ofNat_eq_natCast]
    omega
  | negSucc n =>
    show Nat.ble n k = true ↔ _
    rw [Nat.ble_eq, Int.negSucc_eq]
    omega
/-! within -/
def q_within (v lo hi : Int) : Int := lo + v % (hi - lo + 1)
theorem within_raw (fl : Nat) (a b c : Int) : callF prog gl noD fl noM 0 17 [i64 a, i64 b, i64 c] [] = (chk true (W (W (c - b) + (1 : Int)) != (0 : Int)) (chk true (W (W (c - b) + (1 : Int)) != (0 : Int)) (some ((i64 ((W (b + (W (a.tmod (W (W (c - b) + (1 : Int))) + W (W (c - b) + (1 : Int)))).tmod (W (W (c - b) + (1 : Int)))))), []))))) := by kernel_rfl
theorem tmod_lt {a m : Int} (hm : 0 < m) : -m < a.tmod m ∧ a.tmod m < m := ⟨Int.lt_tmod_of_pos a hm, Int.tmod_lt_of_pos a hm⟩
theorem tmod_pos {a m : Int} (hm : 0 < m) : (a.tmod m + m).tmod m = a % m := by
  have h1 := tmod_lt (a := a) hm
  rw [Int.tmod_eq_emod_of_nonneg (by omega), Int.add_emod_right, Int.tmod_def, Int.sub_mul_emod_self_left]
theorem within_eq (fl : Nat) (a b c : Int) (h : q_small 1000000000 b = true ∧ q_small 1000000000 c = true ∧ b ≤ c) : callF prog gl noD fl noM 0 17 [i64 a, i64 b, i64 c] [] = some (i64 (q_within a b c), []) := by
  rw [within_raw]
  rw [small_iff, small_iff] at h
  have hm : W (W (c - b) + 1) = c - b + 1 := by rw [W_id (n := c - b) (by omega) (by omega), W_id (by omega) (by omega)]
  rw [hm]
  have h1 := tmod_lt (a := a) (m := c - b + 1) (by omega)
  have h2 := Int.emod_nonneg a (b := c - b + 1) (by omega)
  have h3 := Int.emod_lt_of_pos a (b := c - b + 1) (by omega)
  rw [W_id (n := a.tmod (c - b + 1) + (c - b + 1)) (by omega) (by omega), tmod_pos (by omega), W_id (by omega) (by omega), chk_true (by simp; omega), chk_true (by simp; omega)]
  rfl
def aWithin : Nat → List PV → Heap → Option (Bool × PV × Heap)
  | 0, [.one (.int .i64 a), .one (.int .i64 b), .one (.int .i64 c)], [] => some (q_small 1000000000 b && (q_small 1000000000 c && decide (b ≤ c)), i64 (q_within a b c), [])
  | _, _, _ => none
theorem mo : prog.follows .mixedOrders = true := by kernel_rfl
theorem add1 {g : FuncId} {A : Nat → List PV → Heap → Option (Bool × PV × Heap)} {M : Orac} (hM : Sound prog gl M) (h : ∀ nb vs H v H', A nb vs H = some (true, v, H') → ∃ fl, callF prog gl noD fl M nb g vs H = some (v, H')) : Sound prog gl (addM g A M) := add_ok (D := noD) hM hM mo h
set_option maxRecDepth 100000
set_option linter.unusedVariables false
noncomputable def O1 : Orac := addM 17 aWithin noM
theorem sO1 : Sound prog gl O1 := add1 none_ok (fun nb vs H v H' h => by
  unfold aWithin at h
  split at h
  · rename_i a b c
    obtain ⟨h1, h2, h3⟩ : (q_small 1000000000 b = true ∧ q_small 1000000000 c = true ∧ b ≤ c) ∧ i64 (q_within a b c) = v ∧ [] = H' := by simpa using h
    subst h2 h3
    exact ⟨1, within_eq 1 a b c h1⟩
  · cases h)
/-! tools -/
noncomputable def q_dec (p : Prop) : Bool := @decide p (Classical.propDecidable p)
theorem q_dec_iff {p : Prop} : q_dec p = true ↔ p := by unfold q_dec; simp
theorem W_nat {i : Nat} (h : i < 9223372036854775807) : W ((i : Int) + 1) = ((i + 1 : Nat) : Int) := by rw [W_id (by omega) (by omega)]; omega
theorem bmax {a b : Int} : (bif decide (a > b) then a else b) = max b a := by by_cases h : a > b <;> simp [h] <;> omega
theorem bmin {a b : Int} : (bif decide (a < b) then a else b) = min b a := by by_cases h : a < b <;> simp [h] <;> omega
theorem within_in (v lo hi : Int) (h : lo ≤ hi) : lo ≤ q_within v lo hi ∧ q_within v lo hi ≤ hi := by
  unfold q_within
  have h2 := Int.emod_nonneg v (b := hi - lo + 1) (by omega)
  have h3 := Int.emod_lt_of_pos v (b := hi - lo + 1) (by omega)
  omega
/-- A row of e whole numbers; what lies behind them is J. -/
def rj (e : Nat) (B : Nat → Nat → Int) (J : Nat → Nat → PS) : Nat → Nat → PS := fun i j => if j < e then .int .i64 (B i j) else J i j
/-- A row of truth values. -/
def rb (b : Nat → Bool) (J : Nat → Nat → PS) : Nat → Nat → PS := fun i j => if j < 1 then .bool (b i) else J i j
theorem rj_in {e : Nat} {B : Nat → Nat → Int} {J : Nat → Nat → PS} {i j : Nat} (h : j < e) : rj e B J i j = .int .i64 (B i j) := if_pos h
def appB (n : Nat) (B : Nat → Nat → Int) (l : List Int) : Nat → Nat → Int := fun i j => if i < n then B i j else l.getD j 0
theorem app_rj (e n : Nat) (B : Nat → Nat → Int) (J : Nat → Nat → PS) (l : List Int) (he : l.length = e) : ∃ J', appRow n (rj e B J) (litRow e (l.map (PS.int .i64))) = rj e (appB n B l) J' := by
  refine ⟨fun i j => if i < n then J i j else .nilp, ?_⟩
  funext i j
  rw [appRow_eq]
  unfold rj appB litRow
  by_cases hi : i < n
  · simp [hi]
  · by_cases hj : j < e
    · simp [hi, hj, he, List.getD_eq_getElem?_getD]
    · simp [hi, hj, he, List.getD_eq_getElem?_getD]
def putB (B : Nat → Nat → Int) (i o : Nat) (x : Int) : Nat → Nat → Int := fun i1 j1 => if i1 = i ∧ j1 = o then x else B i1 j1
theorem put_rj (e : Nat) (B : Nat → Nat → Int) (J : Nat → Nat → PS) (i o : Nat) (x : Int) (ho : o < e) : putRow (rj e B J) i o [.int .i64 x] = rj e (putB B i o x) J := by
  funext i1 j1
  rw [putRow_eq]
  unfold rj putB
  by_cases h1 : i1 = i
  · by_cases h2 : j1 = o
    · subst h1 h2
      simp [ho]
    · have : ¬ (o ≤ j1 ∧ j1 < o + 1) := by omega
      simp [h1, h2]
      intro a b; omega
  · simp [h1]
theorem app_rb (n : Nat) (b : Nat → Bool) (J : Nat → Nat → PS) (x : Bool) : ∃ J', appRow n (rb b J) (litRow 1 [.bool x]) = rb (fun i => if i < n then b i else x) J' := by
  refine ⟨fun i j => if i < n then J i j else .nilp, ?_⟩
  funext i j
  rw [appRow_eq]
  unfold rb litRow
  by_cases hi : i < n
  · simp [hi]
  · by_cases hj : j < 1
    · obtain rfl : j = 0 := by omega
      simp [hi]
    · obtain ⟨j, rfl⟩ : ∃ j', j = j' + 1 := ⟨j - 1, by omega⟩
      simp [hi]
theorem put_rb (b : Nat → Bool) (J : Nat → Nat → PS) (i : Nat) (x : Bool) : putRow (rb b J) i 0 [.bool x] = rb (fun k => if k = i then x else b k) J := by
  funext i1 j
  rw [putRow_eq]
  unfold rb
  by_cases h1 : i1 = i
  · by_cases hj : j < 1
    · obtain rfl : j = 0 := by omega
      simp [h1]
    · simp [h1, hj]
  · simp [h1]
end Go.Proofs.Ytobfnncpjkeloaa.Sh
