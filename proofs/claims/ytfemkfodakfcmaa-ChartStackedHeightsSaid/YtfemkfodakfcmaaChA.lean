import Derived.Test.YtfemkfodakfcmaaEv11
import Derived.Test.YtfemkfodakfcmaaProg
import Derived.KernelRfl
namespace Go.Proofs.Ytfemkfodakfcmaa.Sh
open Go Go.RowKit Go.Proofs.Ytfemkfodakfcmaa.Ev Go.Proofs.Try
abbrev i64 (n : Int) : PV := .one (.int .i64 n)
abbrev bl (b : Bool) : PV := .one (.bool b)
abbrev W (n : Int) : Int := IntKind.wrap .i64 n
theorem W_id {n : Int} (h : -9223372036854775808 ≤ n) (h2 : n ≤ 9223372036854775807) : W n = n := wrap_id h h2
noncomputable def noD : FuncId → PV := fun _ => i64 0
noncomputable def gl : Globs := fun _ => none
noncomputable def noM : Orac := fun _ _ _ _ => none
theorem chk_true {α : Type} {C p : Bool} {r : Option α} (h : p = true) : chk C p r = r := by unfold chk; rw [h]; rfl
/-- Of at most k in amount: a test that is stuck at once where the number is not known. -/
def q_small (k : Nat) (a : Int) : Bool := match a with
  | .ofNat n => Nat.ble n k
  | .negSucc n => Nat.ble n k
theorem small_iff {k : Nat} {a : Int} : q_small k a = true ↔ -(k : Int) - 1 ≤ a ∧ a ≤ (k : Int) := by
  cases a with
  | ofNat n =>
    show Nat.ble n k = true ↔ _
    rw [Nat.ble_eq, Int.ofNat_eq_natCast]
    omega
  | negSucc n =>
    show Nat.ble n k = true ↔ _
    rw [Nat.ble_eq, Int.negSucc_eq]
    omega
/-! within -/
def q_within (v lo hi : Int) : Int := lo + v % (hi - lo + 1)
theorem within_raw (fl : Nat) (a b c : Int) : callF prog gl noD fl noM 0 17 [i64 a, i64 b, i64 c] [] = (chk true (W (W (c - b) + (1 : Int)) != (0 : Int)) (chk true (W (W (c - b) + (1 : Int)) != (0 : Int)) (some ((i64 ((W (b + (W (a.tmod (W (W (c - b) + (1 : Int))) + W (W (c - b) + (1 : Int)))).tmod (W (W (c - b) + (1 : Int)))))), []))))) := by kernel_rfl
theorem tmod_lt {a m : Int} (hm : 0 < m) : -m < a.tmod m ∧ a.tmod m < m := ⟨Int.lt_tmod_of_pos a hm, Int.tmod_lt_of_pos a hm⟩
theorem tmod_pos {a m : Int} (hm : 0 < m) : (a.tmod m + m).tmod m = a % m := by
  have h1 := tmod_lt (a := a) hm
  rw [Int.tmod_eq_emod_of_nonneg (by omega), Int.add_emod_right, Int.tmod_def, Int.sub_mul_emod_self_left]
theorem within_eq (fl : Nat) (a b c : Int) (h : q_small 1000000000 b = true ∧ q_small 1000000000 c = true ∧ b ≤ c) : callF prog gl noD fl noM 0 17 [i64 a, i64 b, i64 c] [] = some (i64 (q_within a b c), []) := by
  rw [within_raw]
  rw [small_iff, small_iff] at h
  have hm : W (W (c - b) + 1) = c - b + 1 := by rw [W_id (n := c - b) (by omega) (by omega), W_id (by omega) (by omega)]
  rw [hm]
  have h1 := tmod_lt (a := a) (m := c - b + 1) (by omega)
  have h2 := Int.emod_nonneg a (b := c - b + 1) (by omega)
  have h3 := Int.emod_lt_of_pos a (b := c - b + 1) (by omega)
  rw [W_id (n := a.tmod (c - b + 1) + (c - b + 1)) (by omega) (by omega), tmod_pos (by omega), W_id (by omega) (by omega), chk_true (by simp; omega), chk_true (by simp; omega)]
  rfl
def aWithin : Nat → List PV → Heap → Option (Bool × PV × Heap)
  | 0, [.one (.int .i64 a), .one (.int .i64 b), .one (.int .i64 c)], [] => some (q_small 1000000000 b && (q_small 1000000000 c && decide (b ≤ c)), i64 (q_within a b c), [])
  | _, _, _ => none
theorem mo : prog.follows .mixedOrders = true := by kernel_rfl
theorem add1 {g : FuncId} {A : Nat → List PV → Heap → Option (Bool × PV × Heap)} {M : Orac} (hM : Sound prog gl M) (h : ∀ nb vs H v H', A nb vs H = some (true, v, H') → ∃ fl, callF prog gl noD fl M nb g vs H = some (v, H')) : Sound prog gl (addM g A M) := add_ok (D := noD) hM hM mo h
set_option maxRecDepth 100000
set_option linter.unusedVariables false
noncomputable def O1 : Orac := addM 17 aWithin noM
theorem sO1 : Sound prog gl O1 := add1 none_ok (fun nb vs H v H' h => by
  unfold aWithin at h
  split at h
  · rename_i a b c
    obtain ⟨h1, h2, h3⟩ : (q_small 1000000000 b = true ∧ q_small 1000000000 c = true ∧ b ≤ c) ∧ i64 (q_within a b c) = v ∧ [] = H' := by simpa using h
    subst h2 h3
    exact ⟨1, within_eq 1 a b c h1⟩
  · cases h)
/-! floor -/
theorem floor_raw (fl : Nat) (a b : Int) : callF prog gl noD fl O1 0 44 [i64 a, i64 b] [] = (chk true (b != (0 : Int)) (chk true (b != (0 : Int)) (if (decide (a.tmod b < (0 : Int))) = true then (some ((i64 ((W (W (a.tdiv b) - (1 : Int)))), []))) else (some ((i64 ((W (a.tdiv b))), [])))))) := by kernel_rfl
def q_flo (a b : Int) : Int := a / b
theorem floor_eq (fl : Nat) (a b : Int) (h : q_small 9000000000000000000 a = true ∧ 0 < b) : callF prog gl noD fl O1 0 44 [i64 a, i64 b] [] = some (i64 (q_flo a b), []) := by
  rw [floor_raw]
  obtain ⟨h1, h2⟩ := h
  rw [small_iff] at h1
  rw [chk_true (by simp; omega), chk_true (by simp; omega)]
  have e1 := Int.mul_tdiv_add_tmod a b
  have e2 := Int.mul_ediv_add_emod a b
  have e3 := Int.emod_nonneg a (b := b) (by omega)
  have e4 := Int.emod_lt_of_pos a (b := b) (by omega)
  have e5 := tmod_lt (a := a) h2
  have bd : -9000000000000000001 ≤ a.tdiv b ∧ a.tdiv b ≤ 9000000000000000001 := by
    have := Int.natAbs_tdiv_le_natAbs a b
    omega
  rw [W_id (n := a.tdiv b) (by omega) (by omega), W_id (n := a.tdiv b - 1) (by omega) (by omega)]
  unfold q_flo
  by_cases hn : a.tmod b < 0
  · rw [if_pos (by simpa using hn)]
    have : a.tdiv b - 1 = a / b := by
      symm
      refine (Int.ediv_emod_unique (r := a.tmod b + b) h2).2 ⟨?_, by omega, by omega⟩ |>.1
      rw [Int.mul_sub, Int.mul_one]; omega
    rw [this]
  · rw [if_neg (by simpa using hn)]
    have : a.tdiv b = a / b := by
      symm
      exact ((Int.ediv_emod_unique (r := a.tmod b) h2).2 ⟨by omega, by omega, by omega⟩).1
    rw [this]
def aFlo : Nat → List PV → Heap → Option (Bool × PV × Heap)
  | 0, [.one (.int .i64 a), .one (.int .i64 b)], [] => some (q_small 9000000000000000000 a && decide (0 < b), i64 (q_flo a b), [])
  | _, _, _ => none
noncomputable def O2 : Orac := addM 44 aFlo O1
theorem sO2 : Sound prog gl O2 := add1 sO1 (fun nb vs H v H' h => by
  unfold aFlo at h
  split at h
  · rename_i a b
    obtain ⟨h1, h2, h3⟩ : (q_small 9000000000000000000 a = true ∧ 0 < b) ∧ i64 (q_flo a b) = v ∧ [] = H' := by simpa using h
    subst h2 h3
    exact ⟨1, floor_eq 1 a b h1⟩
  · cases h)
/-! Check of a scale -/
noncomputable def q_dec (p : Prop) : Bool := @decide p (Classical.propDecidable p)
theorem q_dec_iff {p : Prop} : q_dec p = true ↔ p := by unfold q_dec; simp
theorem chks_raw (fl : Nat) (a b c : Int) : callF prog gl noD fl O2 0 45 [.agg [.int .i64 a, .int .i64 b, .int .i64 c]] [] = (if (bif bif bif bif bif decide (a < (-4000000000000 : Int)) then true else decide (a > (4000000000000 : Int)) then true else decide (b < (-4000000000000 : Int)) then true else decide (b > (4000000000000 : Int)) then true else decide (c < (1 : Int)) then true else decide (c > (4000000000000 : Int))) = true then (some ((i64 ((2 : Int)), []))) else (if (decide (a ≥ b)) = true then (some ((i64 ((5 : Int)), []))) else (chk true (c != (0 : Int)) (if (bif Decidable.rec (fun h ↦ (fun x ↦ false) h) (fun h ↦ (fun x ↦ true) h) (instDecidableEqBool ((fun a b ↦ a != b) ((fun a b ↦ a.tmod b) (W ((fun a b ↦ a - b) b a)) c) (0 : Int)) false) then true else false) = true then (if (q_small (9000000000000000000 : Nat) a && decide ((0 : Int) < c)) = true then (if (bif (W (b - a)).tmod c != (0 : Int) then true else W (q_flo a c * c) != a) = true then (some ((i64 ((4 : Int)), []))) else (chk true (c != (0 : Int)) (if (decide (W ((W (b - a)).tdiv c) > (500 : Int))) = true then (some ((i64 ((3 : Int)), []))) else (some ((i64 ((0 : Int)), [])))))) else none) else (if (bif (W (b - a)).tmod c != (0 : Int) then true else W ((0 : Int) * c) != a) = true then (some ((i64 ((4 : Int)), []))) else (chk true (c != (0 : Int)) (if (decide (W ((W (b - a)).tdiv c) > (500 : Int))) = true then (some ((i64 ((3 : Int)), []))) else (some ((i64 ((0 : Int)), [])))))))))) := by kernel_rfl
def q_sc (a b c : Int) : Prop := -4000000000000 ≤ a ∧ b ≤ 4000000000000 ∧ (1 ≤ c ∧ c ≤ 4000000000000) ∧ a < b ∧ (b - a) % c = 0 ∧ a % c = 0 ∧ (b - a) / c ≤ 500
theorem grd (X : Bool) : (bif Decidable.rec (motive := fun _ => Bool) (fun h ↦ (fun x ↦ false) h) (fun h ↦ (fun x ↦ true) h) (instDecidableEqBool X false) then true else false) = !X := by cases X <;> rfl
theorem chks_eq (fl : Nat) (a b c : Int) (h : q_sc a b c) : callF prog gl noD fl O2 0 45 [.agg [.int .i64 a, .int .i64 b, .int .i64 c]] [] = some (i64 0, []) := by
  obtain ⟨h1, h2, h3, h4, h5, h6, h7⟩ := h
  rw [chks_raw]
  have hw : W (b - a) = b - a := W_id (by omega) (by omega)
  have ht : (b - a).tmod c = 0 := by rw [Int.tmod_eq_emod_of_nonneg (by omega)]; exact h5
  have hd : (b - a).tdiv c = (b - a) / c := Int.tdiv_eq_ediv_of_nonneg (by omega)
  have hd0 : 0 ≤ (b - a) / c := Int.ediv_nonneg (by omega) (by omega)
  have hq : q_flo a c * c = a := by
    unfold q_flo
    have := Int.mul_ediv_add_emod a c
    rw [Int.mul_comm]; omega
  have t1 : q_small 9000000000000000000 a = true := small_iff.2 (by omega)
  rw [if_neg (by simp <;> omega), if_neg (by simp <;> omega), chk_true (by simp; omega)]
  simp only [hw, ht, hd, grd, hq, t1]
  rw [W_id (n := a) (by omega) (by omega), W_id (n := (b - a) / c) (by omega) (by omega)]
  rw [if_pos (by simp), if_pos (by simp; omega), if_neg (by simp), chk_true (by simp; omega), if_neg (by simp; omega)]
def q_aSc (a b c : Int) : Prop := q_sc a b c
noncomputable def aChk : Nat → List PV → Heap → Option (Bool × PV × Heap)
  | 0, [.agg [.int .i64 a, .int .i64 b, .int .i64 c]], [] => some (q_dec (q_sc a b c), i64 0, [])
  | _, _, _ => none
noncomputable def O3 : Orac := addM 45 aChk O2
theorem sO3 : Sound prog gl O3 := add1 sO2 (fun nb vs H v H' h => by
  unfold aChk at h
  split at h
  · rename_i a b c
    obtain ⟨h1, h2, h3⟩ : q_dec (q_sc a b c) = true ∧ i64 0 = v ∧ [] = H' := by simpa using h
    subst h2 h3
    exact ⟨1, chks_eq 1 a b c (q_dec_iff.1 h1)⟩
  · cases h)
/-! Place -/
theorem plc_raw (fl : Nat) (a b c v n : Int) : callF prog gl noD fl O3 0 21 [.agg [.int .i64 a, .int .i64 b, .int .i64 c], i64 v, i64 n] [] = (if (q_dec (q_sc a b c)) = true then (if (bif bif bif decide (n < (0 : Int)) then true else decide (n > (100000 : Int)) then true else decide (v < a) then true else decide (v > b)) = true then (some ((PV.tup [i64 ((0 : Int)), i64 ((2 : Int))], []))) else (if (q_small (9000000000000000000 : Nat) (W (W (W ((2 : Int) * W (v - a)) * n) + W (b - a))) && decide ((0 : Int) < W ((2 : Int) * W (b - a)))) = true then (some ((PV.tup [i64 ((q_flo (W (W (W ((2 : Int) * W (v - a)) * n) + W (b - a))) (W ((2 : Int) * W (b - a))))), i64 ((0 : Int))], []))) else none)) else none) := by kernel_rfl
def q_pl (a b v n : Int) : Int := (2 * (v - a) * n + (b - a)) / (2 * (b - a))
def q_plP (a b c v n : Int) : Prop := q_sc a b c ∧ (0 ≤ n ∧ n ≤ 100000) ∧ a ≤ v ∧ v ≤ b
theorem plc_eq (fl : Nat) (a b c v n : Int) (h : q_plP a b c v n) : callF prog gl noD fl O3 0 21 [.agg [.int .i64 a, .int .i64 b, .int .i64 c], i64 v, i64 n] [] = some (.tup [i64 (q_pl a b v n), i64 0], []) := by
  rw [plc_raw]
  obtain ⟨⟨h1, h2, h3, h4, h5, h6, h7⟩, h8, h9, h10⟩ := h
  have m1 : 0 ≤ 2 * (v - a) * n := Int.mul_nonneg (by omega) (by omega)
  have m2 : 2 * (v - a) * n ≤ 16000000000000 * 100000 := by
    have q1 : 2 * (v - a) * n ≤ 16000000000000 * n := Int.mul_le_mul_of_nonneg_right (by omega) h8.1
    omega
  rw [W_id (n := v - a) (by omega) (by omega), W_id (n := b - a) (by omega) (by omega), W_id (n := 2 * (v - a)) (by omega) (by omega), W_id (n := 2 * (b - a)) (by omega) (by omega)]
  generalize hz : 2 * (v - a) * n = Z at *
  rw [W_id (n := Z) (by omega) (by omega), W_id (n := Z + (b - a)) (by omega) (by omega)]
  have t1 : q_small 9000000000000000000 (Z + (b - a)) = true := small_iff.2 (by omega)
  rw [if_pos (q_dec_iff.2 ⟨h1, h2, h3, h4, h5, h6, h7⟩), if_neg (by simp; omega), t1, if_pos (by simp; omega)]
  unfold q_pl q_flo
  rw [hz]
noncomputable def aPlc : Nat → List PV → Heap → Option (Bool × PV × Heap)
  | 0, [.agg [.int .i64 a, .int .i64 b, .int .i64 c], .one (.int .i64 v), .one (.int .i64 n)], [] => some (q_dec (q_plP a b c v n), .tup [i64 (q_pl a b v n), i64 0], [])
  | _, _, _ => none
noncomputable def O4 : Orac := addM 21 aPlc O3
theorem sO4 : Sound prog gl O4 := add1 sO3 (fun nb vs H v H' h => by
  unfold aPlc at h
  split at h
  · rename_i a b c x n
    obtain ⟨h1, h2, h3⟩ : q_dec (q_plP a b c x n) = true ∧ .tup [i64 (q_pl a b x n), i64 0] = v ∧ [] = H' := by simpa using h
    subst h2 h3
    exact ⟨1, plc_eq 1 a b c x n (q_dec_iff.1 h1)⟩
  · cases h)
/-! edges -/
abbrev pEdg : List Bool := [true, true, false, true, false]
abbrev hEdg (n : Nat) (a b i : Int) : En := [(12, none, i64 i), (11, none, i64 n), (5, none, .one (.os 9)), (4, none, .one .nils), (0, none, i64 a), (1, none, i64 b)]
theorem edg_pre (fl : Nat) (a b : Int) : callF prog gl noD fl O4 0 46 [i64 a, i64 b] [] = (if (decide ((0 : Int) ≤ W (b + (1 : Int))) && (decide ((W (b + (1 : Int))).toNat ≤ (9223372036854775807 : Nat)) && decide ((8 : Nat) * (W (b + (1 : Int))).toNat ≤ (281474976710656 : Nat)))) = true then (rounds (bodyAt prog gl O4 noD f46 2 0 fl pEdg) (kAt prog gl O4 noD f46 2 0 fl pEdg) fl ([((12 : Nat), none, i64 ((0 : Int))), ((11 : Nat), none, i64 ((↑(W (b + (1 : Int))).toNat : Int))), ((5 : Nat), none, PV.one (PS.os (9 : Nat))), ((4 : Nat), none, PV.one PS.nils), ((0 : Nat), none, i64 (a)), ((1 : Nat), none, i64 (b))]) ([((9 : Nat), OB.rows (3 : Nat) (1 : Nat) (W (b + (1 : Int))).toNat fun x j ↦ [PS.int IntKind.i64 (0 : Int)].getD j PS.nilp)])) else none) := by kernel_rfl
theorem edg_step (fl m n : Nat) (a b i : Int) (row : Nat → Nat → PS) (K : Exit → En → Heap → Option (PV × Heap)) : rounds (bodyAt prog gl O4 noD f46 2 0 fl pEdg) K (m + 1) (hEdg n a b i) [(9, .rows 3 1 n row)] = (if (decide (i < (↑n : Int))) = true then (chk true (b != (0 : Int)) (chk true (decide ((0 : Int) ≤ i) && decide (i < (↑n : Int))) (if (decide (i.toNat < n)) = true then (rounds (bodyAt prog gl O4 noD f46 2 0 fl pEdg) K m ([((12 : Nat), none, i64 ((W (i + (1 : Int))))), ((11 : Nat), none, i64 ((↑n : Int))), ((5 : Nat), none, PV.one (PS.os (9 : Nat))), ((4 : Nat), none, PV.one PS.nils), ((0 : Nat), none, i64 (a)), ((1 : Nat), none, i64 (b))]) ([((9 : Nat), OB.rows (3 : Nat) (1 : Nat) n (putRow row i.toNat (0 : Nat) [PS.int IntKind.i64 (W ((W (a * i)).tdiv b))]))])) else none))) else (K (Exit.exit (0 : Nat)) ([((12 : Nat), none, i64 (i)), ((11 : Nat), none, i64 ((↑n : Int))), ((5 : Nat), none, PV.one (PS.os (9 : Nat))), ((4 : Nat), none, PV.one PS.nils), ((0 : Nat), none, i64 (a)), ((1 : Nat), none, i64 (b))]) ([((9 : Nat), OB.rows (3 : Nat) (1 : Nat) n row)]))) := by kernel_rfl
/-- The edges of equal parts. -/
def q_er (a b : Int) : Nat → Nat → PS := fun i _ => .int .i64 (a * i / b)
def q_edP (a b : Int) : Prop := (0 ≤ a ∧ a ≤ 1000000) ∧ 1 ≤ b ∧ b ≤ 1000000
theorem edg_loop (fl n : Nat) (a b : Int) (h : q_edP a b) (hn : n = (b + 1).toNat) : ∀ (r i m : Nat) (row : Nat → Nat → PS), i + r = n → r < m → (∀ i', i' < i → row i' 0 = q_er a b i' 0) →
    ∃ row', rounds (bodyAt prog gl O4 noD f46 2 0 fl pEdg) (kAt prog gl O4 noD f46 2 0 fl pEdg) m (hEdg n a b i) [(9, .rows 3 1 n row)] = some (.one (.os 0), [(0, .rows 3 1 n row')]) ∧ ∀ i', i' < n → row' i' 0 = q_er a b i' 0 := by
  intro r
  induction r with
  | zero =>
    intro i m row hi hm hr
    obtain ⟨m, rfl⟩ : ∃ m', m = m' + 1 := ⟨m - 1, by omega⟩
    obtain rfl : i = n := by omega
    refine ⟨row, ?_, hr⟩
    refine (edg_step fl m i a b i row _).trans ((if_neg (by simp)).trans ?_)
    kernel_rfl
  | succ r ih =>
    intro i m row hi hm hr
    obtain ⟨m, rfl⟩ : ∃ m', m = m' + 1 := ⟨m - 1, by omega⟩
    obtain ⟨⟨h1, h2⟩, h3, h4⟩ := h
    have m1 : 0 ≤ a * i := Int.mul_nonneg (by omega) (by omega)
    have m2 : a * i ≤ 1000000 * i := Int.mul_le_mul_of_nonneg_right h2 (by omega)
    have d1 : (a * i).tdiv b = a * i / b := Int.tdiv_eq_ediv_of_nonneg m1
    have d2 : 0 ≤ a * i / b := Int.ediv_nonneg m1 (by omega)
    have d3 : a * i / b ≤ a * i := Int.ediv_le_self _ m1
    have hW : W ((i : Int) + 1) = ((i + 1 : Nat) : Int) := by rw [W_id (by omega) (by omega)]; omega
    have go := edg_step fl m n a b i row (kAt prog gl O4 noD f46 2 0 fl pEdg)
    rw [if_pos (by simp; omega), chk_true (by simp; omega), chk_true (by simp; omega), if_pos (by simp; omega), Int.toNat_natCast, W_id (n := a * i) (by omega) (by omega), d1, W_id (n := a * i / b) (by omega) (by omega), hW] at go
    rw [go]
    refine ih (i + 1) m _ (by omega) (by omega) (fun i' hi' => ?_)
    unfold putRow
    by_cases e : i' = i
    · subst e
      rw [if_pos (by simp)]
      rfl
    · rw [if_neg (by simp [e])]
      exact hr i' (by omega)
theorem edg_eq (a b : Int) (h : q_edP a b) : ∃ fl row', callF prog gl noD fl O4 0 46 [i64 a, i64 b] [] = some (.one (.os 0), [(0, .rows 3 1 (b + 1).toNat row')]) ∧ ∀ i, i < (b + 1).toNat → row' i 0 = q_er a b i 0 := by
  have h' := h
  obtain ⟨⟨h1, h2⟩, h3, h4⟩ := h
  obtain ⟨row', q1, q2⟩ := edg_loop ((b + 1).toNat + 1) (b + 1).toNat a b h' rfl (b + 1).toNat 0 ((b + 1).toNat + 1) (fun x j ↦ [PS.int IntKind.i64 (0 : Int)].getD j PS.nilp) (by omega) (by omega) (fun _ h => by omega)
  refine ⟨(b + 1).toNat + 1, row', ?_, q2⟩
  rw [edg_pre, W_id (n := b + 1) (by omega) (by omega), if_pos (by simp; omega)]
  exact q1
noncomputable def aEdg : Nat → List PV → Heap → Option (Bool × PV × Heap)
  | 0, [.one (.int .i64 a), .one (.int .i64 b)], [] => some (q_dec (q_edP a b), .one (.os 0), [(0, .rows 3 1 (b + 1).toNat (q_er a b))])
  | _, _, _ => none
noncomputable def O5 : Orac := addM 46 aEdg O4
theorem sO5 : Sound prog gl O5 := add_ag (D := noD) sO4 sO4 mo (fun nb vs H v H' h => by
  unfold aEdg at h
  split at h
  · rename_i a b
    obtain ⟨h1, h2, h3⟩ : q_dec (q_edP a b) = true ∧ .one (.os 0) = v ∧ [(0, OB.rows 3 1 (b + 1).toNat (q_er a b))] = H' := by simpa using h
    subst h2 h3
    obtain ⟨fl, r', h4, h5⟩ := edg_eq a b (q_dec_iff.1 h1)
    have hag : ∀ i j, i < (b + 1).toNat → j < 1 → r' i j = q_er a b i j := fun i j hi hj => by
      obtain rfl : j = 0 := by omega
      exact h5 i hi
    exact ⟨fl, _, _, h4, agV_refl _, .inr ⟨0, _, 1, _, r', _, [], rfl, rfl, fun i j hi hj => .of_eq (hag i j hi hj), fun p hp => nomatch hp⟩⟩
  · cases h)
end Go.Proofs.Ytfemkfodakfcmaa.Sh
