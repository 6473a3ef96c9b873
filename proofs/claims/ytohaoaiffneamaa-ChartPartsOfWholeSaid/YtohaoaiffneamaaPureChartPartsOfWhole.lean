/- What ChartPartsOfWhole computes is true, at every chart: sectors follow each other around the circle, shares add up to a thousand, a greater value has no smaller part. No condition beyond the kinds of the arguments. -/
import Derived.Test.YtohaoaiffneamaaTypChartPartsOfWhole
namespace Go.Proofs.Ytohaoaiffneamaa.Pure
open Go.RowKit Go.Proofs.Ytohaoaiffneamaa.QChartPartsOfWhole Go.Proofs.YtohaoaiffneamaaW.PrintWords Go.Proofs.YtohaoaiffneamaaW.PrintLast Go.Proofs.YtohaoaiffneamaaW.PrintMore

/-- From some number of rounds on the answer is there, and it is as told. -/
def EvP {α : Type} (g : Nat → Option α) (P : α → Prop) : Prop := ∃ r, Ev g r ∧ P r
theorem EvP.ret {α : Type} {r : α} {P : α → Prop} (h : P r) : EvP (fun _ => some r) P := ⟨r, Ev.now r, h⟩
theorem EvP.cst {α : Type} {g : Option α} {r : α} {P : α → Prop} (e : g = some r) (h : P r) : EvP (fun _ => g) P := ⟨r, ⟨0, fun _ _ => e⟩, h⟩
theorem EvP.bind {α β : Type} {g : Nat → Option α} {f : Nat → α → Option β} {P : α → Prop} {Q : β → Prop} (h : EvP g P) (k : ∀ a, P a → EvP (fun n => f n a) Q) : EvP (fun n => (g n).bind (f n)) Q := by
  obtain ⟨a, ha, hp⟩ := h
  obtain ⟨r, hr, hq⟩ := k a hp
  exact ⟨r, Ev.bind ha hr, hq⟩
theorem EvP.ite {α : Type} {c : Prop} [Decidable c] {a b : Nat → Option α} {Q : α → Prop} (h : c → EvP a Q) (k : ¬ c → EvP b Q) : EvP (fun n => if c then a n else b n) Q := by
  by_cases hc : c
  · simp only [if_pos hc]; exact h hc
  · simp only [if_neg hc]; exact k hc
theorem EvP.pos {α : Type} {c : Prop} [Decidable c] {a b : Nat → Option α} {Q : α → Prop} (hc : c) (h : EvP a Q) : EvP (fun n => if c then a n else b n) Q := by
  simp only [if_pos hc]; exact h
theorem EvP.neg {α : Type} {c : Prop} [Decidable c] {a b : Nat → Option α} {Q : α → Prop} (hc : ¬ c) (h : EvP b Q) : EvP (fun n => if c then a n else b n) Q := by
  simp only [if_neg hc]; exact h
theorem EvP.step {α : Type} {g f : Nat → Option α} {Q : α → Prop} (h : ∀ k, g (k + 1) = f k) (k : EvP f Q) : EvP g Q := by
  obtain ⟨r, hr, hq⟩ := k
  exact ⟨r, Ev.step h hr, hq⟩
theorem EvP.congr {α : Type} {g f : Nat → Option α} {Q : α → Prop} (h : ∀ k, g k = f k) (k : EvP f Q) : EvP g Q := by
  obtain ⟨r, hr, hq⟩ := k
  exact ⟨r, Ev.congr h hr, hq⟩
theorem EvP.mono {α : Type} {g : Nat → Option α} {P Q : α → Prop} (h : EvP g P) (k : ∀ r, P r → Q r) : EvP g Q := by
  obtain ⟨r, hr, hp⟩ := h
  exact ⟨r, hr, k r hp⟩
theorem EvP.rounds {α : Type} {g : Nat → Option α} {r : α} (h : EvP g (· = r)) : ∃ k, g k = some r := by
  obtain ⟨q, hq, rfl⟩ := h
  exact hq.rounds
theorem EvP.ev {α : Type} {g : Nat → Option α} {r : α} (h : Ev g r) : EvP g (· = r) := ⟨r, h, rfl⟩
/-- What has no rounds, told as what has some. -/
theorem EvP.plain {α : Type} {g : Option α} {P : α → Prop} (h : EvP (fun _ => g) P) : ∃ r, g = some r ∧ P r := by
  obtain ⟨r, ⟨K, hK⟩, hp⟩ := h
  exact ⟨r, hK K (Nat.le_refl _), hp⟩
theorem wz {n : Int} (h : -9223372036854775808 ≤ n) (k : n ≤ 9223372036854775807) : wrap64 n = n := by
  unfold wrap64; omega
theorem bounds64 {n : Int} (h : (Lit.int .i64 n).wf = true) : -9223372036854775808 ≤ n ∧ n ≤ 9223372036854775807 := by
  simp [Lit.wf, IntKind.min, IntKind.max, IntKind.signed, IntKind.bits] at h
  omega

theorem wc {i n : Nat} (h : i < n) (hn : n ≤ 1000000) : wrap64 ((i : Int) + 1) = ((i + 1 : Nat) : Int) := by
  rw [wz (by omega) (by omega)]; omega
/-! sums -/
def sm (f : Nat → Int) : Nat → Int
  | 0 => 0
  | i + 1 => sm f i + f i
theorem sm_congr {f g : Nat → Int} {n : Nat} (h : ∀ j, j < n → f j = g j) : sm f n = sm g n := by
  induction n with
  | zero => rfl
  | succ n ih => simp only [sm]; rw [ih (fun j hj => h j (by omega)), h n (by omega)]
theorem sm_add {f g : Nat → Int} {n : Nat} : sm (fun j => f j + g j) n = sm f n + sm g n := by
  induction n with
  | zero => rfl
  | succ n ih => simp only [sm]; rw [ih]; omega
theorem sm_mul {c : Int} {f : Nat → Int} {n : Nat} : sm (fun j => c * f j) n = c * sm f n := by
  induction n with
  | zero => simp [sm]
  | succ n ih => simp only [sm]; rw [ih, Int.mul_add]
theorem sm_le {f g : Nat → Int} {n : Nat} (h : ∀ j, j < n → f j ≤ g j) : sm f n ≤ sm g n := by
  induction n with
  | zero => exact Int.le_refl _
  | succ n ih => simp only [sm]; have := ih (fun j hj => h j (by omega)); have := h n (by omega); omega
theorem sm_const {c : Int} {n : Nat} : sm (fun _ => c) n = n * c := by
  induction n with
  | zero => simp [sm]
  | succ n ih => simp only [sm]; rw [ih, show ((n + 1 : Nat) : Int) = (n : Int) + 1 by omega, Int.add_mul, Int.one_mul]
theorem sm_upd {f : Nat → Int} {n b : Nat} (hb : b < n) : sm (fun j => if j = b then f j + 1 else f j) n = sm f n + 1 := by
  induction n with
  | zero => omega
  | succ n ih =>
    simp only [sm]
    by_cases e : n = b
    · subst e
      rw [if_pos rfl, sm_congr (g := f) (fun j hj => if_neg (by omega))]; omega
    · rw [if_neg e, ih (by omega)]; omega
theorem rd_set {l : List Int} {i j : Nat} {a : Int} (h : i < l.length) : rd (l.set i a) (j : Int) = if j = i then a else rd l (j : Int) := by
  unfold rd
  rw [Int.toNat_natCast, List.getD_eq_getElem?_getD, List.getElem?_set, List.getD_eq_getElem?_getD]
  by_cases e : i = j
  · subst e; simp [h]
  · rw [if_neg e, if_neg (by omega)]
theorem rdb_set {l : List Bool} {i j : Nat} {a : Bool} (h : i < l.length) : rdOf false (l.set i a) (j : Int) = if j = i then a else rdOf false l (j : Int) := by
  unfold rdOf
  rw [Int.toNat_natCast, List.getD_eq_getElem?_getD, List.getElem?_set, List.getD_eq_getElem?_getD]
  by_cases e : i = j
  · subst e; simp [h]
  · rw [if_neg e, if_neg (by omega)]
theorem rd_zeros (n : Nat) (j : Int) : rd (List.replicate n 0) j = 0 := by
  unfold rd; rw [List.getD_eq_getElem?_getD, List.getElem?_replicate]; split <;> rfl
theorem rdb_zeros (n : Nat) (j : Int) : rdOf false (List.replicate n false) j = false := by
  unfold rdOf; rw [List.getD_eq_getElem?_getD, List.getElem?_replicate]; split <;> rfl
theorem rd_snoc_lt {l : List Int} {a : Int} {j : Nat} (h : j < l.length) : rd (l ++ [a]) (j : Int) = rd l (j : Int) := by
  unfold rd; rw [Int.toNat_natCast, List.getD_eq_getElem?_getD, List.getD_eq_getElem?_getD, List.getElem?_append_left h]
theorem rd_snoc_eq {l : List Int} {a : Int} : rd (l ++ [a]) (l.length : Int) = a := by
  unfold rd; rw [Int.toNat_natCast, List.getD_eq_getElem?_getD]; simp
theorem rd_out {l : List Int} {j : Nat} (h : l.length ≤ j) : rd l (j : Int) = 0 := by
  unfold rd; rw [Int.toNat_natCast, List.getD_eq_getElem?_getD, List.getElem?_eq_none h]; rfl

theorem within_ok {x lo hi : Int} (hx : -9223372036854775808 ≤ x ∧ x ≤ 9223372036854775807) (h : lo ≤ hi) (hlo : -4611686018427387904 ≤ lo) (hhi : hi ≤ 4611686018427387904) (hd : hi - lo < 2305843009213693952) :
    ∃ r, ck_within.f x lo hi = some r ∧ lo ≤ r ∧ r ≤ hi := by
  unfold ck_within.f
  rw [wz (n := hi - lo) (by omega) (by omega), wz (n := hi - lo + 1) (by omega) (by omega)]
  obtain ⟨n, hn⟩ : ∃ n, n = hi - lo + 1 := ⟨_, rfl⟩
  rw [← hn, if_neg (by omega)]
  have t1 : -n < Int.tmod x n ∧ Int.tmod x n < n := by
    constructor
    · by_cases h0 : 0 ≤ x
      · have := Int.tmod_nonneg n h0; omega
      · obtain ⟨m, rfl⟩ : ∃ m, x = -m := ⟨-x, by omega⟩
        rw [Int.neg_tmod]
        have := Int.tmod_lt_of_pos m (show 0 < n by omega)
        omega
    · exact Int.tmod_lt_of_pos x (by omega)
  rw [wz (n := Int.tmod x n + n) (by omega) (by omega)]
  have t2 := Int.tmod_nonneg n (show 0 ≤ Int.tmod x n + n by omega)
  have t3 := Int.tmod_lt_of_pos (Int.tmod x n + n) (show 0 < n by omega)
  refine ⟨_, rfl, ?_, ?_⟩
  · rw [wz (by omega) (by omega)]; omega
  · rw [wz (by omega) (by omega)]; omega
theorem within_ev {x lo hi : Int} (hx : -9223372036854775808 ≤ x ∧ x ≤ 9223372036854775807) (h : lo ≤ hi) (hlo : -4611686018427387904 ≤ lo) (hhi : hi ≤ 4611686018427387904) (hd : hi - lo < 2305843009213693952) :
    EvP (fun _ => ck_within.f x lo hi) (fun r => lo ≤ r ∧ r ≤ hi) := by
  obtain ⟨r, e, h⟩ := within_ok hx h hlo hhi hd
  exact EvP.cst e h

section shares
variable {v : List Int} (hv : ∀ j : Nat, 0 ≤ rd v (j : Int) ∧ rd v (j : Int) ≤ 1000) (hn1 : 1 ≤ v.length) (hn6 : v.length ≤ 6)
def V (v : List Int) (j : Nat) : Int := rd v (j : Int)
def T (v : List Int) : Int := sm (V v) v.length
def F (v : List Int) (j : Nat) : Int := 1000 * V v j / T v
def R (v : List Int) (j : Nat) : Int := 1000 * V v j % T v
def ind (up : List Bool) (j : Nat) : Int := if rdOf false up (j : Int) = true then 1 else 0
include hv in
theorem sm_bd (i : Nat) : 0 ≤ sm (V v) i ∧ sm (V v) i ≤ i * 1000 := by
  have h1 := sm_le (f := fun _ => 0) (g := V v) (n := i) (fun j _ => (hv j).1)
  have h2 := sm_le (f := V v) (g := fun _ => 1000) (n := i) (fun j _ => (hv j).2)
  rw [sm_const] at h1 h2
  omega
include hv in
theorem sm_mono {i j : Nat} (h : i ≤ j) : sm (V v) i ≤ sm (V v) j := by
  induction j with
  | zero => have : i = 0 := by omega
            subst this; exact Int.le_refl _
  | succ j ih =>
    by_cases e : i = j + 1
    · subst e; exact Int.le_refl _
    · have := ih (by omega)
      have := (hv j).1
      show _ ≤ sm (V v) j + V v j
      unfold V at *
      omega
structure SharesOk (v : List Int) (r : List Int × Int) : Prop where
  ok : r.2 = 0
  len : r.1.length = v.length
  zero : T v = 0 → ∀ j : Nat, rd r.1 (j : Int) = 0
  total : 0 < T v → sm (fun j => rd r.1 (j : Int)) v.length = 1000
  more : ∀ i k : Nat, i < v.length → k < v.length → V v i < V v k → rd r.1 (i : Int) ≤ rd r.1 (k : Int)
  bd : ∀ j : Nat, j < v.length → 0 ≤ rd r.1 (j : Int) ∧ rd r.1 (j : Int) ≤ 1000001
/-- The state of the rounding up. -/
structure Up (v : List Int) (x : List Int) (left : Int) (up : List Bool) : Prop where
  lx : x.length = v.length
  lu : up.length = v.length
  val : ∀ j : Nat, j < v.length → rd x (j : Int) = F v j + ind up j
  shut : ∀ i k : Nat, i < v.length → k < v.length → rdOf false up (i : Int) = true → rdOf false up (k : Int) = false → R v k ≤ R v i
  count : sm (ind up) v.length = 1000 - sm (F v) v.length - left
  left0 : 0 ≤ left
include hv in
theorem V_bd (j : Nat) : 0 ≤ V v j ∧ V v j ≤ 1000 := hv j
include hv hn1 hn6 in
theorem F_facts (hT : 0 < T v) : (∀ j : Nat, 0 ≤ F v j ∧ F v j ≤ 1000000 ∧ 0 ≤ R v j ∧ R v j < T v ∧ T v * F v j + R v j = 1000 * V v j) ∧ 0 ≤ 1000 - sm (F v) v.length ∧ 1000 - sm (F v) v.length < v.length := by
  have key : ∀ j : Nat, 0 ≤ F v j ∧ F v j ≤ 1000000 ∧ 0 ≤ R v j ∧ R v j < T v ∧ T v * F v j + R v j = 1000 * V v j := fun j => by
    have hb := V_bd hv j
    have h1 := Int.mul_ediv_add_emod (1000 * V v j) (T v)
    have h2 := Int.emod_nonneg (1000 * V v j) (show T v ≠ 0 by omega)
    have h3 := Int.emod_lt_of_pos (1000 * V v j) hT
    have h4 : 0 ≤ 1000 * V v j / T v := Int.ediv_nonneg (by omega) (by omega)
    have h5 : 1000 * V v j / T v ≤ 1000000 := Int.ediv_le_of_le_mul hT (by
      have := Int.mul_le_mul_of_nonneg_left (show 1 ≤ T v by omega) (show (0 : Int) ≤ 1000000 by omega)
      omega)
    exact ⟨h4, h5, h2, h3, h1⟩
  refine ⟨key, ?_⟩
  have e1 : sm (fun j => T v * F v j + R v j) v.length = sm (fun j => 1000 * V v j) v.length := sm_congr (fun j _ => (key j).2.2.2.2)
  rw [sm_add, sm_mul, sm_mul] at e1
  have e2 : sm (V v) v.length = T v := rfl
  rw [e2] at e1
  have r1 := sm_le (f := fun _ => 0) (g := R v) (n := v.length) (fun j _ => (key j).2.2.1)
  have r2 := sm_le (f := R v) (g := fun _ => T v - 1) (n := v.length) (fun j _ => by have := (key j).2.2.2.1; omega)
  rw [sm_const] at r1 r2
  have e3 : T v * (1000 - sm (F v) v.length) = sm (R v) v.length := by rw [Int.mul_sub]; omega
  generalize 1000 - sm (F v) v.length = L at *
  have e4 : (v.length : Int) * (T v - 1) = T v * v.length - v.length := by rw [Int.mul_sub, Int.mul_one, Int.mul_comm]
  constructor
  · by_cases h : 0 ≤ L
    · exact h
    · have := Int.mul_le_mul_of_nonneg_left (show L ≤ -1 by omega) (show 0 ≤ T v by omega)
      omega
  · by_cases h : L < v.length
    · exact h
    · have := Int.mul_le_mul_of_nonneg_left (show (v.length : Int) ≤ L by omega) (show 0 ≤ T v by omega)
      omega
include hv hn1 hn6 in
theorem l3_ok (hT : 0 < T v) {x : List Int} {left : Int} {up : List Bool} (hU : Up v x left up) (hl : 0 < left)
    (cont : ∀ b : Nat, b < v.length → rdOf false up (b : Int) = false → (∀ j : Nat, j < v.length → rdOf false up (j : Int) = false → R v j ≤ R v b) →
      EvP (fun k => chart_Shares.l2 k v (T v) (x.set b (wrap64 (rd x (b : Int) + 1))) (wrap64 (left - 1)) (up.set b true)) (SharesOk v)) (d : Nat) :
    ∀ (i : Nat) (best : Int), i + d = v.length → (best < 0 → best = -1 ∧ ∀ j : Nat, j < i → rdOf false up (j : Int) = true) →
      (0 ≤ best → ∃ b : Nat, best = b ∧ b < i ∧ rdOf false up (b : Int) = false ∧ ∀ j : Nat, j < i → rdOf false up (j : Int) = false → R v j ≤ R v b) →
      EvP (fun k => chart_Shares.l3 k v (T v) x left up best v (v.length : Int) (i : Int)) (SharesOk v) := by
  have hf := F_facts hv hn1 hn6 hT
  have hTb := sm_bd hv v.length
  have eT : T v = sm (V v) v.length := rfl
  induction d with
  | zero =>
    intro i best hi h1 h2
    refine EvP.step (fun k => by simp only [chart_Shares.l3]; rfl) ?_
    refine EvP.neg (by omega) ?_
    by_cases hb : best < 0
    · exfalso
      have hall := (h1 hb).2
      have := sm_congr (f := ind up) (g := fun _ => 1) (n := v.length) (fun j hj => by unfold ind; rw [if_pos (hall j (by omega))])
      rw [sm_const] at this
      have hc := hU.count
      omega
    · obtain ⟨b, rfl, hbi, hbu, hbm⟩ := h2 (by omega)
      refine EvP.pos (by omega) (EvP.pos (by rw [hU.lu]; omega) (EvP.pos (by rw [hU.lx]; omega) ?_))
      rw [Int.toNat_natCast]
      exact cont b (by omega) hbu (fun j hj => hbm j (by omega))
  | succ d ih =>
    intro i best hi h1 h2
    refine EvP.step (fun k => by simp only [chart_Shares.l3]; rfl) ?_
    refine EvP.pos (by omega) (EvP.pos (by omega) (EvP.pos (by omega) (EvP.pos (by rw [hU.lu]; omega) ?_)))
    rw [wc (n := v.length) (by omega) (by omega)]
    refine EvP.ite (fun hu => ?_) (fun hu => ?_)
    · refine ih (i + 1) best (by omega) (fun hb => ⟨(h1 hb).1, fun j hj => ?_⟩) (fun hb => ?_)
      · by_cases e : j = i
        · subst e; exact hu
        · exact (h1 hb).2 j (by omega)
      · obtain ⟨b, e, hbi, hbu, hbm⟩ := h2 hb
        refine ⟨b, e, by omega, hbu, fun j hj hj2 => ?_⟩
        by_cases e : j = i
        · subst e; rw [hu] at hj2; cases hj2
        · exact hbm j (by omega) hj2
    · have hu' : rdOf false up (i : Int) = false := by simpa using hu
      have take : (∀ j : Nat, j < i → rdOf false up (j : Int) = false → R v j ≤ R v i) → EvP (fun k => chart_Shares.l3 k v (T v) x left up (i : Int) v (v.length : Int) ((i + 1 : Nat) : Int)) (SharesOk v) := fun hm => by
        refine ih (i + 1) (i : Int) (by omega) (fun hb => by omega) (fun _ => ⟨i, rfl, by omega, hu', fun j hj hj2 => ?_⟩)
        by_cases e : j = i
        · subst e; exact Int.le_refl _
        · exact hm j (by omega) hj2
      refine EvP.ite (fun hb => ?_) (fun hb => ?_)
      · refine take (fun j hj hj2 => ?_)
        rw [(h1 hb).2 j hj] at hj2; cases hj2
      · obtain ⟨b, rfl, hbi, hbu, hbm⟩ := h2 (by omega)
        have bi := V_bd hv i
        have bb := V_bd hv b
        refine EvP.neg (by omega) (EvP.pos (by omega) (EvP.pos (by omega) ?_))
        have ei : Int.tmod (wrap64 (1000 * rd v (i : Int))) (T v) = R v i := by
          rw [wz (n := 1000 * rd v (i : Int)) (by unfold V at bi; omega) (by unfold V at bi; omega), Int.tmod_eq_emod_of_nonneg (by unfold V at bi; omega)]; rfl
        have eb : Int.tmod (wrap64 (1000 * rd v (b : Int))) (T v) = R v b := by
          rw [wz (n := 1000 * rd v (b : Int)) (by unfold V at bb; omega) (by unfold V at bb; omega), Int.tmod_eq_emod_of_nonneg (by unfold V at bb; omega)]; rfl
        rw [ei, eb]
        refine EvP.ite (fun hc => take (fun j hj hj2 => by have := hbm j hj hj2; omega)) (fun hc => ?_)
        refine ih (i + 1) (b : Int) (by omega) (fun hb => by omega) (fun _ => ⟨b, rfl, by omega, hbu, fun j hj hj2 => ?_⟩)
        by_cases e : j = i
        · subst e; omega
        · exact hbm j (by omega) hj2
include hv hn1 hn6 in
theorem l2_ok (hT : 0 < T v) (d : Nat) : ∀ (x : List Int) (left : Int) (up : List Bool), Up v x left up → left = d →
    EvP (fun k => chart_Shares.l2 k v (T v) x left up) (SharesOk v) := by
  have hf := F_facts hv hn1 hn6 hT
  induction d with
  | zero =>
    intro x left up hU hl
    refine EvP.step (fun k => by simp only [chart_Shares.l2]; rfl) ?_
    refine EvP.neg (by omega) (EvP.ret ⟨rfl, hU.lx, fun h => by omega, fun _ => ?_, fun i k hi hk hik => ?_, fun j hj => ?_⟩)
    · have e := sm_congr (f := fun j => rd x (j : Int)) (g := fun j => F v j + ind up j) (n := v.length) (fun j hj => hU.val j hj)
      rw [sm_add, hU.count] at e
      simp only
      rw [e]; omega
    · simp only
      rw [hU.val i hi, hU.val k hk]
      have fi := hf.1 i
      have fk := hf.1 k
      have i0 : ind up i = 0 ∨ ind up i = 1 := by unfold ind; split <;> simp
      have k0 : ind up k = 0 ∨ ind up k = 1 := by unfold ind; split <;> simp
      have hle : F v i ≤ F v k := Int.ediv_le_ediv hT (by omega)
      by_cases e : F v i = F v k
      · by_cases ci : rdOf false up (i : Int) = true
        · by_cases ck : rdOf false up (k : Int) = true
          · unfold ind; rw [if_pos ci, if_pos ck]; omega
          · have hs := hU.shut i k hi hk ci (by simpa using ck)
            rw [e] at fi
            omega
        · unfold ind; rw [if_neg ci]; split <;> omega
      · omega
    · simp only
      rw [hU.val j hj]
      have fj := hf.1 j
      unfold ind; split <;> omega
  | succ d ih =>
    intro x left up hU hl
    refine EvP.step (fun k => by simp only [chart_Shares.l2]; rfl) ?_
    refine EvP.pos (by omega) ?_
    refine l3_ok hv hn1 hn6 hT hU (by omega) (fun b hb hbu hbm => ?_) v.length 0 (-1) (by omega) (fun _ => ⟨rfl, fun j hj => by omega⟩) (fun h => by omega)
    have hx := hU.val b hb
    have fb := hf.1 b
    have ib : ind up b = 0 := by unfold ind; rw [hbu]; rfl
    have hL : left ≤ 6 := by
      have h0 := sm_le (f := fun _ => 0) (g := ind up) (n := v.length) (fun j _ => by unfold ind; split <;> simp)
      rw [sm_const] at h0
      have := hU.count
      omega
    rw [wz (n := rd x (b : Int) + 1) (by omega) (by omega), wz (n := left - 1) (by omega) (by omega)]
    have hi : ∀ j : Nat, ind (up.set b true) j = if j = b then ind up j + 1 else ind up j := fun j => by
      unfold ind
      rw [rdb_set (by rw [hU.lu]; exact hb)]
      by_cases e : j = b
      · subst e; rw [if_pos rfl, if_pos rfl, if_pos rfl, hbu]; rfl
      · rw [if_neg e, if_neg e]
    refine ih _ _ _ ⟨by rw [List.length_set]; exact hU.lx, by rw [List.length_set]; exact hU.lu, fun j hj => ?_, fun i k hi2 hk hiu hku => ?_, ?_, by omega⟩ (by omega)
    · rw [rd_set (by rw [hU.lx]; exact hb), hi j]
      by_cases e : j = b
      · subst e; rw [if_pos rfl, if_pos rfl, hx]; omega
      · rw [if_neg e, if_neg e]; exact hU.val j hj
    · rw [rdb_set (by rw [hU.lu]; exact hb)] at hiu hku
      by_cases ek : k = b
      · rw [if_pos ek] at hku; cases hku
      · rw [if_neg ek] at hku
        by_cases ei : i = b
        · subst ei; exact hbm k hk hku
        · rw [if_neg ei] at hiu; exact hU.shut i k hi2 hk hiu hku
    · rw [sm_congr (g := fun j => if j = b then ind up j + 1 else ind up j) (fun j _ => hi j), sm_upd hb, hU.count]; omega
include hv hn1 hn6 in
theorem l1_ok (hT : 0 < T v) (d : Nat) : ∀ (i : Nat) (x : List Int), i + d = v.length → x.length = v.length → (∀ j : Nat, j < i → rd x (j : Int) = F v j) →
    EvP (fun k => chart_Shares.l1 k v (T v) x (1000 - sm (F v) i) v (v.length : Int) (i : Int)) (SharesOk v) := by
  have hf := F_facts hv hn1 hn6 hT
  have hTb := sm_bd hv v.length
  have eT : T v = sm (V v) v.length := rfl
  induction d with
  | zero =>
    intro i x hi hx hj
    obtain rfl : i = v.length := by omega
    refine EvP.step (fun k => by simp only [chart_Shares.l1]; rfl) ?_
    refine EvP.neg (by omega) (EvP.pos (by omega) (EvP.pos (by omega) ?_))
    refine l2_ok hv hn1 hn6 hT (1000 - sm (F v) v.length).toNat x _ _ ⟨hx, by simp, fun j hjl => ?_, fun i k _ _ h => ?_, ?_, hf.2.1⟩ (by omega)
    · rw [hj j hjl]; unfold ind; rw [rdb_zeros]; simp
    · rw [rdb_zeros] at h; cases h
    · rw [sm_congr (g := fun _ => 0) (fun j _ => by unfold ind; rw [rdb_zeros]; rfl), sm_const]; omega
  | succ d ih =>
    intro i x hi hx hj
    refine EvP.step (fun k => by simp only [chart_Shares.l1]; rfl) ?_
    have bi := V_bd hv i
    have fi := hf.1 i
    refine EvP.pos (by omega) (EvP.pos (by omega) (EvP.pos (by omega) (EvP.neg (by omega) (EvP.pos (by rw [hx]; omega) ?_))))
    have e1 : wrap64 (Int.tdiv (wrap64 (1000 * rd v (i : Int))) (T v)) = F v i := by
      unfold F V at fi
      unfold V at bi
      rw [wz (n := 1000 * rd v (i : Int)) (by omega) (by omega), Int.tdiv_eq_ediv_of_nonneg (by omega), wz (by omega) (by omega)]; rfl
    rw [Int.toNat_natCast, e1, wc (n := v.length) (by omega) (by omega)]
    refine EvP.bind (EvP.ret (P := (· = x.set i (F v i))) rfl) (fun y hy => ?_)
    subst hy
    have e2 : rd (x.set i (F v i)) (i : Int) = F v i := by rw [rd_set (by omega), if_pos rfl]
    have s0 := sm_le (f := fun _ => 0) (g := F v) (n := i) (fun j _ => (hf.1 j).1)
    have s1 := sm_le (f := F v) (g := fun _ => 1000000) (n := i) (fun j _ => (hf.1 j).2.1)
    rw [sm_const] at s0 s1
    have e3 : wrap64 (1000 - sm (F v) i - rd (x.set i (F v i)) (i : Int)) = 1000 - sm (F v) (i + 1) := by
      rw [e2, wz (by omega) (by omega)]; show _ = 1000 - (sm (F v) i + F v i); omega
    rw [e3]
    refine ih (i + 1) _ (by omega) (by rw [List.length_set]; exact hx) (fun j hjl => ?_)
    rw [rd_set (by omega)]
    by_cases e : j = i
    · subst e; rw [if_pos rfl]
    · rw [if_neg e]; exact hj j (by omega)
include hv hn1 hn6 in
theorem l0_ok (d : Nat) : ∀ (i : Nat), i + d = v.length →
    EvP (fun k => chart_Shares.l0 k v (sm (V v) i) v (v.length : Int) (i : Int)) (SharesOk v) := by
  have hTb := sm_bd hv v.length
  have eT : T v = sm (V v) v.length := rfl
  induction d with
  | zero =>
    intro i hi
    obtain rfl : i = v.length := by omega
    refine EvP.step (fun k => by simp only [chart_Shares.l0]; rfl) ?_
    refine EvP.neg (by omega) (EvP.pos (by omega) (EvP.pos (by omega) ?_))
    refine EvP.bind (EvP.ret (P := (· = List.replicate v.length 0)) (by simp)) (fun y hy => ?_)
    subst hy
    rw [← eT]
    refine EvP.ite (fun h => EvP.ret ⟨rfl, by simp, fun _ j => rd_zeros _ _, fun h2 => by omega, fun i k hi hk hik => ?_, fun j _ => ?_⟩) (fun h => ?_)
    · simp only; rw [rd_zeros, rd_zeros]; omega
    · simp only; rw [rd_zeros]; omega
    · have := l1_ok hv hn1 hn6 (show 0 < T v by omega) v.length 0 (List.replicate v.length 0) (by omega) (by simp) (fun j hj => by omega)
      simpa [sm] using this
  | succ d ih =>
    intro i hi
    refine EvP.step (fun k => by simp only [chart_Shares.l0]; rfl) ?_
    have bi := hv i
    have hs := sm_bd hv i
    refine EvP.pos (by omega) (EvP.pos (by omega) (EvP.pos (by omega) (EvP.neg (by omega) (EvP.neg (by omega) ?_))))
    have e3 : wrap64 (sm (V v) i + rd v (i : Int)) = sm (V v) (i + 1) := by
      rw [wz (by omega) (by omega)]; rfl
    rw [e3, wc (n := v.length) (by omega) (by omega)]
    exact ih (i + 1) (by omega)
include hv hn1 hn6 in
theorem shares_ok : EvP (fun k => chart_Shares.f k v) (SharesOk v) := by
  unfold chart_Shares.f
  refine EvP.neg (by omega) (EvP.neg (by omega) ?_)
  exact l0_ok hv hn1 hn6 v.length 0 (by omega)
end shares
/-! the chart's check, at a chart of sectors -/
section check
variable {ns : List ByteArray} {v : List Int} (hv : ∀ j : Nat, 0 ≤ rd v (j : Int) ∧ rd v (j : Int) ≤ 1000) (hn1 : 1 ≤ v.length) (hn6 : v.length ≤ 6) (hns : ns.length = v.length)
include hv hn1 hn6 hns
theorem check_l1 (d : Nat) : ∀ (i : Nat), i + d = v.length → EvP (fun k => chart_Check.l1 k [v] 1 0 v (v.length : Int) (i : Int) 3 ns [v]) (· = 0) := by
  induction d with
  | zero =>
    intro i hi
    refine EvP.step (fun k => by simp only [chart_Check.l1]; rfl) (EvP.neg (by omega) ?_)
    refine EvP.step (fun k => by simp only [chart_Check.l0]; rfl) ?_
    exact EvP.neg (by rw [wz (by omega) (by omega)]; omega) (EvP.ret rfl)
  | succ d ih =>
    intro i hi
    have bi := hv i
    refine EvP.step (fun k => by simp only [chart_Check.l1]; rfl) (EvP.pos (by omega) (EvP.pos (by omega) (EvP.pos (by omega) (EvP.neg (by omega) (EvP.neg (by omega) (EvP.neg (by omega) ?_))))))
    rw [wc (n := v.length) (by omega) (by omega)]
    exact ih (i + 1) (by omega)
theorem check_ok : EvP (fun k => chart_Check.f k 3 ns [v]) (· = 0) := by
  unfold chart_Check.f
  refine EvP.neg (by omega) ?_
  refine EvP.step (fun k => by simp only [chart_Check.j0]; rfl) (EvP.neg (by simp) (EvP.neg (by omega) ?_))
  refine EvP.step (fun k => by simp only [chart_Check.j1]; rfl) (EvP.neg (by simp) (EvP.neg (by omega) ?_))
  refine EvP.step (fun k => by simp only [chart_Check.j2]; rfl) (EvP.neg (by simp) (EvP.pos (by simp) ?_))
  refine EvP.step (fun k => by simp only [chart_Check.j3]; rfl) (EvP.neg (by simp) ?_)
  refine EvP.step (fun k => by simp only [chart_Check.l0]; rfl) (EvP.pos (by simp) (EvP.pos (by omega) (EvP.pos (by simp) (EvP.pos ?_ ?_))))
  · simp [rd_L1, hns]
  · exact check_l1 hv hn1 hn6 hns v.length 0 (by omega)
/-- Where sector i begins. -/
def at_ (v : List Int) (i : Nat) : Int := if 0 < T v then (2 * sm (V v) i * 3600 + T v) / (2 * T v) else 0
omit hv hn1 hn6 hns in
theorem at_zero : at_ v 0 = 0 := by
  unfold at_
  split
  · simp only [sm]; exact Int.ediv_eq_zero_of_lt (by omega) (by omega)
  · rfl
omit hv hn1 hn6 hns in
theorem at_end (hT : 0 < T v) : at_ v v.length = 3600 := by
  unfold at_
  rw [if_pos hT, show sm (V v) v.length = T v from rfl, show 2 * T v * 3600 + T v = T v + 2 * T v * 3600 from Int.add_comm _ _, Int.add_mul_ediv_left _ _ (by omega), Int.ediv_eq_zero_of_lt (by omega) (by omega)]
  omega
omit hn1 hn6 hns in
theorem at_mono (i : Nat) : at_ v i ≤ at_ v (i + 1) := by
  unfold at_
  split
  · refine Int.ediv_le_ediv (by omega) ?_
    have := V_bd hv i
    show 2 * sm (V v) i * 3600 + T v ≤ 2 * (sm (V v) i + V v i) * 3600 + T v
    omega
  · omega
def secs (v : List Int) (i : Nat) : List S60 := (List.range i).map fun (j : Nat) => (⟨(j : Int), at_ v j, at_ v (j + 1)⟩ : S60)
omit hv hn1 hn6 hns in
theorem secs_rd {n i : Nat} (h : i < n) : rd_T60 (secs v n) (i : Int) = ⟨(i : Int), at_ v i, at_ v (i + 1)⟩ := by
  simp [rd_T60, secs, h]
theorem sectors_l1 (d : Nat) : ∀ (i : Nat), i + d = v.length → EvP (fun k => chart_Sectors.l1 k (T v) (secs v i) (sm (V v) i) (at_ v i) v (v.length : Int) (i : Int)) (fun r => r.2 = 0 ∧ r.1 = secs v v.length) := by
  have hTb := sm_bd hv v.length
  have eT : T v = sm (V v) v.length := rfl
  induction d with
  | zero =>
    intro i hi
    obtain rfl : i = v.length := by omega
    exact EvP.step (fun k => by simp only [chart_Sectors.l1]; rfl) (EvP.neg (by omega) (EvP.ret ⟨rfl, rfl⟩))
  | succ d ih =>
    intro i hi
    have bi := hv i
    have hs := sm_bd hv i
    have hs1 := sm_bd hv (i + 1)
    have hlen : (secs v i).length < 5864062014805 := by simp [secs]; omega
    have e1 : wrap64 (sm (V v) i + rd v (i : Int)) = sm (V v) (i + 1) := by rw [wz (by omega) (by omega)]; rfl
    have hsec : secs v (i + 1) = secs v i ++ [⟨(i : Int), at_ v i, at_ v (i + 1)⟩] := by simp [secs, List.range_succ]
    have h := ih (i + 1) (by omega)
    rw [hsec] at h
    refine EvP.step (fun k => by simp only [chart_Sectors.l1]; rfl) (EvP.pos (by omega) (EvP.pos (by omega) (EvP.pos (by omega) ?_)))
    rw [e1, wc (n := v.length) (by omega) (by omega)]
    refine EvP.ite (fun hT => ?_) (fun hT => ?_)
    · rw [wz (n := 2 * T v) (by omega) (by omega), wz (n := 2 * sm (V v) (i + 1)) (by omega) (by omega), wz (n := 2 * sm (V v) (i + 1) * 3600) (by omega) (by omega), wz (n := 2 * sm (V v) (i + 1) * 3600 + T v) (by omega) (by omega), Int.tdiv_eq_ediv_of_nonneg (by omega)]
      have hd : 0 ≤ (2 * sm (V v) (i + 1) * 3600 + T v) / (2 * T v) ∧ (2 * sm (V v) (i + 1) * 3600 + T v) / (2 * T v) ≤ 100000000 := by
        refine ⟨Int.ediv_nonneg (by omega) (by omega), Int.ediv_le_of_le_mul (by omega) ?_⟩
        have := Int.mul_le_mul_of_nonneg_left (show 1 ≤ 2 * T v by omega) (show (0 : Int) ≤ 100000000 by omega)
        omega
      rw [wz (n := (2 * sm (V v) (i + 1) * 3600 + T v) / (2 * T v)) (by omega) (by omega)]
      have ea : (2 * sm (V v) (i + 1) * 3600 + T v) / (2 * T v) = at_ v (i + 1) := by unfold at_; rw [if_pos (by omega)]
      rw [ea]
      exact EvP.neg (by omega) (EvP.pos hlen h)
    · have ea : at_ v (i + 1) = 0 := by unfold at_; rw [if_neg (by omega)]
      rw [ea] at h
      exact EvP.pos hlen h
theorem sectors_l0 (d : Nat) : ∀ (i : Nat), i + d = v.length → EvP (fun k => chart_Sectors.l0 k (sm (V v) i) v (v.length : Int) (i : Int) 3 ns [v]) (fun r => r.2 = 0 ∧ r.1 = secs v v.length) := by
  have hTb := sm_bd hv v.length
  have eT : T v = sm (V v) v.length := rfl
  induction d with
  | zero =>
    intro i hi
    obtain rfl : i = v.length := by omega
    refine EvP.step (fun k => by simp only [chart_Sectors.l0]; rfl) (EvP.neg (by omega) (EvP.pos (by simp) ?_))
    have := sectors_l1 hv hn1 hn6 hns v.length 0 (by omega)
    rw [at_zero] at this
    simpa [secs, sm, rd_L1, T] using this
  | succ d ih =>
    intro i hi
    have bi := hv i
    have hs := sm_bd hv i
    have e1 : wrap64 (sm (V v) i + rd v (i : Int)) = sm (V v) (i + 1) := by rw [wz (by omega) (by omega)]; rfl
    refine EvP.step (fun k => by simp only [chart_Sectors.l0]; rfl) (EvP.pos (by omega) (EvP.pos (by omega) (EvP.pos (by omega) ?_)))
    rw [e1, wc (n := v.length) (by omega) (by omega)]
    exact ih (i + 1) (by omega)
theorem sectors_ok : EvP (fun k => chart_Sectors.f k 3 ns [v]) (fun r => r.2 = 0 ∧ r.1 = secs v v.length) := by
  unfold chart_Sectors.f
  refine EvP.bind (check_ok hv hn1 hn6 hns) (fun t ht => EvP.pos ht (EvP.pos rfl (EvP.pos (by simp) ?_)))
  exact sectors_l0 hv hn1 hn6 hns v.length 0 (by omega)
end check
theorem charted_ok : EvP (fun k => ck_charted.f k) (· = true) := by
  unfold ck_charted.f
  have h : EvP (fun k => chart_Sectors.f k 3 [⟨#[97]⟩, ⟨#[98]⟩] [[1, 3]]) (fun r => r.2 = 0 ∧ r.1 = secs [1, 3] 2) := by
    refine sectors_ok (ns := [⟨#[97]⟩, ⟨#[98]⟩]) (v := [1, 3]) (fun j => ?_) (by simp) (by simp) rfl
    rcases j with _ | _ | j
    · simp [rd]
    · simp [rd]
    · rw [rd_out (by simp)]; omega
  refine EvP.bind h (fun r hr => EvP.pos hr.1 ?_)
  rw [hr.2]
  refine EvP.pos (by simp [secs]) (EvP.pos (by simp [secs]) (EvP.ret ?_))
  kernel_rfl

/-! the chart that the law makes -/
section bars
/-- The chart: kind 3, names, one series of the names' length. -/
structure BarsOk (r : Int × List ByteArray × List (List Int)) : Prop where
  kind : r.1 = 3
  parts : ∃ v : List Int, r.2.2 = [v] ∧ r.2.1.length = v.length ∧ 1 ≤ v.length ∧ v.length ≤ 6 ∧ ∀ j : Nat, 0 ≤ rd v (j : Int) ∧ rd v (j : Int) ≤ 1000
/-- Each series so far has the names' length and numbers from 0 to 1000. -/
def Ser (n : Nat) (l : List (List Int)) : Prop := ∀ s ∈ l, s.length = n ∧ ∀ j : Nat, 0 ≤ rd s (j : Int) ∧ rd s (j : Int) ≤ 1000
variable {a0 : Int} {l1 : List ByteArray} {l2 : List (List Int)} (hw : ∀ s ∈ l2, (∀ n ∈ s, (Lit.int .i64 n).wf = true))
include hw in
theorem rd2_bd (i j : Nat) : -9223372036854775808 ≤ rd (rd_L1 l2 (i : Int)) (j : Int) ∧ rd (rd_L1 l2 (i : Int)) (j : Int) ≤ 9223372036854775807 := by
  unfold rd
  by_cases h : j < (rd_L1 l2 (i : Int)).length
  · have hm := List.getElem_mem h
    have : rd_L1 l2 (i : Int) ∈ l2 ∨ rd_L1 l2 (i : Int) = [] := by
      unfold rd_L1
      rw [Int.toNat_natCast, List.getD_eq_getElem?_getD]
      by_cases hi : i < l2.length
      · left; rw [List.getElem?_eq_getElem hi]; exact List.getElem_mem hi
      · right; rw [List.getElem?_eq_none (by omega)]; rfl
    rcases this with h2 | h2
    · have := bounds64 (hw _ h2 _ hm)
      rw [Int.toNat_natCast, List.getD_eq_getElem?_getD, List.getElem?_eq_getElem h]
      exact this
    · rw [h2] at h; simp at h
  · rw [Int.toNat_natCast, List.getD_eq_getElem?_getD, List.getElem?_eq_none (by omega)]; simp
include hw in
theorem bars_l2 {ns : List ByteArray} (hn1 : 1 ≤ ns.length) (hn6 : ns.length ≤ 6) {i : Nat} (hi : i < l2.length) (hi4 : i < 4) {out : List (List Int)} (hout : out.length = i)
    (cont : ∀ s : List Int, s.length = ns.length → (∀ j : Nat, 0 ≤ rd s (j : Int) ∧ rd s (j : Int) ≤ 1000) → EvP (fun k => ck_bars.l1 k 3 ((i + 1 : Nat) : Int) a0 l1 l2 3 ns (out ++ [s])) BarsOk) (d : Nat) :
    ∀ (q : Nat) (s : List Int), q + d = ns.length → s.length = q → (∀ j : Nat, 0 ≤ rd s (j : Int) ∧ rd s (j : Int) ≤ 1000) →
      EvP (fun k => ck_bars.l2 k 3 (i : Int) s (ns.length : Int) (q : Int) a0 l1 l2 3 ns out) BarsOk := by
  induction d with
  | zero =>
    intro q s hq hs hv
    refine EvP.step (fun k => by simp only [ck_bars.l2]; rfl) (EvP.neg (by omega) (EvP.pos (by omega) ?_))
    rw [wc (n := 4) (by omega) (by omega)]
    exact cont s (by omega) hv
  | succ d ih =>
    intro q s hq hs hv
    have go : ∀ x : Int, -9223372036854775808 ≤ x ∧ x ≤ 9223372036854775807 → EvP (fun k => ck_bars.j6 k 3 (i : Int) s x (ns.length : Int) (q : Int) a0 l1 l2 3 ns out) BarsOk := fun x hx => by
      refine EvP.step (fun k => by simp only [ck_bars.j6]; rfl) (EvP.neg (by omega) ?_)
      refine EvP.step (fun k => by simp only [ck_bars.j7]; rfl) (EvP.neg (by simp) ?_)
      refine EvP.bind (within_ev hx (by omega) (by omega) (by omega) (by omega)) (fun t ht => EvP.pos (by omega) ?_)
      rw [wc (n := ns.length) (by omega) (by omega)]
      refine ih (q + 1) _ (by omega) (by simp [hs]) (fun j => ?_)
      by_cases e : j < s.length
      · rw [rd_snoc_lt e]; exact hv j
      · by_cases e2 : j = s.length
        · subst e2; rw [rd_snoc_eq]; exact ht
        · rw [rd_out (by simp; omega)]; omega
    refine EvP.step (fun k => by simp only [ck_bars.l2]; rfl) (EvP.pos (by omega) (EvP.pos (by omega) (EvP.pos (by omega) ?_)))
    refine EvP.ite (fun h => EvP.pos (by omega) (go _ (rd2_bd hw i q))) (fun h => go _ ?_)
    rw [wz (n := 5 * (q : Int)) (by omega) (by omega), wz (by omega) (by omega)]
    omega
include hw in
theorem bars_l1 {ns : List ByteArray} (hn1 : 1 ≤ ns.length) (hn6 : ns.length ≤ 6) (d : Nat) : ∀ (i : Nat) (out : List (List Int)), i + d = 4 → out.length = i → i ≤ l2.length → Ser ns.length out →
    EvP (fun k => ck_bars.l1 k 3 (i : Int) a0 l1 l2 3 ns out) BarsOk := by
  have fin : ∀ (i : Nat) (out : List (List Int)), out.length = i → Ser ns.length out → EvP (fun k => ck_bars.j4 k 3 (i : Int) false a0 l1 l2 3 ns out) BarsOk := fun i out ho hS => by
    refine EvP.step (fun k => by simp only [ck_bars.j4]; rfl) (EvP.neg (by simp) ?_)
    refine EvP.ite (fun h => ?_) (fun h => ?_)
    · refine EvP.pos (by omega) (EvP.pos (by omega) ?_)
      refine EvP.bind (EvP.ret (P := (· = [List.replicate ns.length 0])) (by simp)) (fun y hy => ?_)
      subst hy
      refine EvP.pos (by simp) (EvP.pos (by simp) (EvP.ret ⟨rfl, List.replicate ns.length 0, by simp, by simp, by simpa using hn1, by simpa using hn6, fun j => by rw [rd_zeros]; omega⟩))
    · obtain ⟨s, rest, rfl⟩ : ∃ s rest, out = s :: rest := by
        cases out with
        | nil => simp at h
        | cons s rest => exact ⟨s, rest, rfl⟩
      have hs := hS s (by simp)
      refine EvP.pos (by simp) (EvP.pos (by simp; omega) (EvP.ret ⟨rfl, s, by simp, by simp [hs.1], by omega, by omega, hs.2⟩))
  induction d with
  | zero =>
    intro i out hi ho hl hS
    refine EvP.step (fun k => by simp only [ck_bars.l1]; rfl) ?_
    refine EvP.ite (fun h => ?_) (fun h => fin i out ho hS)
    rw [show decide ((i : Int) < 4) = false by simp; omega]
    exact fin i out ho hS
  | succ d ih =>
    intro i out hi ho hl hS
    refine EvP.step (fun k => by simp only [ck_bars.l1]; rfl) ?_
    refine EvP.ite (fun h => ?_) (fun h => fin i out ho hS)
    rw [show decide ((i : Int) < 4) = true by simp; omega]
    refine EvP.step (fun k => by simp only [ck_bars.j4]; rfl) (EvP.pos (by simp) ?_)
    refine bars_l2 hw hn1 hn6 (by omega) (by omega) ho (fun s hs hv => ?_) ns.length 0 [] (by omega) rfl (fun j => by simp [rd])
    refine ih (i + 1) _ (by omega) (by simp [ho]) (by omega) (fun x hx => ?_)
    rcases List.mem_append.1 hx with hx | hx
    · exact hS x hx
    · rw [List.mem_singleton.1 hx]; exact ⟨hs, hv⟩
include hw in
theorem bars_j2 {ns : List ByteArray} (hn1 : 1 ≤ ns.length) (hn6 : ns.length ≤ 6) : EvP (fun k => ck_bars.j2 k 3 a0 l1 l2 3 ns) BarsOk := by
  refine EvP.step (fun k => by simp only [ck_bars.j2]; rfl) ?_
  exact bars_l1 hw hn1 hn6 4 0 [] (by omega) rfl (by omega) (fun s hs => by simp at hs)
include hw in
theorem bars_j1 {ns : List ByteArray} (hn6 : ns.length ≤ 6) : EvP (fun k => ck_bars.j1 k 3 a0 l1 l2 3 ns) BarsOk := by
  refine EvP.step (fun k => by simp only [ck_bars.j1]; rfl) ?_
  exact EvP.ite (fun h => bars_j2 hw (by simp) (by simp)) (fun h => bars_j2 hw (by omega) hn6)
include hw in
theorem bars_l0 (d : Nat) : ∀ (i : Nat) (ns : List ByteArray), i + d = 6 → ns.length = i → EvP (fun k => ck_bars.l0 k 3 (i : Int) a0 l1 l2 3 ns) BarsOk := by
  induction d with
  | zero =>
    intro i ns hi hn
    refine EvP.step (fun k => by simp only [ck_bars.l0]; rfl) ?_
    refine EvP.ite (fun h => EvP.neg (by omega) (bars_j1 hw (by omega))) (fun h => bars_j1 hw (by omega))
  | succ d ih =>
    intro i ns hi hn
    refine EvP.step (fun k => by simp only [ck_bars.l0]; rfl) ?_
    refine EvP.ite (fun h => EvP.pos (by omega) (EvP.pos (by omega) ?_)) (fun h => bars_j1 hw (by omega))
    rw [wc (n := 6) (by omega) (by omega)]
    exact ih (i + 1) _ (by omega) (by simp [hn])
include hw in
theorem bars_ok : EvP (fun k => ck_bars.f k a0 l1 l2 3) BarsOk := by
  unfold ck_bars.f
  exact bars_l0 hw 6 0 [] (by omega) rfl
end bars
section law
variable {v x : List Int} (hv : ∀ j : Nat, 0 ≤ rd v (j : Int) ∧ rd v (j : Int) ≤ 1000) (hn1 : 1 ≤ v.length) (hn6 : v.length ≤ 6) (hx : SharesOk v (x, 0))
include hv hn1 hn6 hx
omit hv in
theorem law_l1 {at1 s1 s2 : Int} {i : Nat} (hi : i < v.length) (cont : EvP (fun k => ck_ChartPartsOfWhole.l0 k v (secs v v.length) x at1 s1 s2 (v.length : Int) ((i + 1 : Nat) : Int)) (· = true)) (d : Nat) :
    ∀ (q : Nat), q + d = v.length → EvP (fun k => ck_ChartPartsOfWhole.l1 k v (secs v v.length) x at1 s1 s2 (i : Int) (v.length : Int) (i : Int) (v.length : Int) (q : Int)) (· = true) := by
  have hxl := hx.len
  simp only at hxl
  induction d with
  | zero =>
    intro q hq
    refine EvP.step (fun k => by simp only [ck_ChartPartsOfWhole.l1]; rfl) (EvP.neg (by omega) ?_)
    rw [wc (n := v.length) (by omega) (by omega)]
    exact cont
  | succ d ih =>
    intro q hq
    refine EvP.step (fun k => by simp only [ck_ChartPartsOfWhole.l1]; rfl) (EvP.pos (by omega) (EvP.pos (by omega) (EvP.pos (by omega) (EvP.pos (by omega) (EvP.pos (by omega) ?_)))))
    rw [wc (n := v.length) (by omega) (by omega)]
    refine EvP.ite (fun h => EvP.pos (by omega) (EvP.pos (by omega) (EvP.neg ?_ (ih (q + 1) (by omega))))) (fun h => ih (q + 1) (by omega))
    have := hx.more i q hi (by omega) (by unfold V; omega)
    simp only at this
    omega
theorem law_l0 (d : Nat) : ∀ (i : Nat), i + d = v.length →
    EvP (fun k => ck_ChartPartsOfWhole.l0 k v (secs v v.length) x (at_ v i) (sm (fun j => rd x (j : Int)) i) (sm (V v) i) (v.length : Int) (i : Int)) (· = true) := by
  have hTb := sm_bd hv v.length
  have eT : T v = sm (V v) v.length := rfl
  have hxl := hx.len
  simp only at hxl
  induction d with
  | zero =>
    intro i hi
    obtain rfl : i = v.length := by omega
    refine EvP.step (fun k => by simp only [ck_ChartPartsOfWhole.l0]; rfl) (EvP.neg (by omega) ?_)
    rw [← eT]
    refine EvP.ite (fun h => ?_) (fun h => ?_)
    · refine EvP.pos (by unfold at_; rw [if_neg (by omega)]) (EvP.ret ?_)
      rw [sm_congr (g := fun _ => 0) (fun j _ => hx.zero h j), sm_const]; simp
    · refine EvP.pos (at_end (by omega)) (EvP.ret ?_)
      have := hx.total (by omega)
      simp only at this
      rw [this]; rfl
  | succ d ih =>
    intro i hi
    have bi := hv i
    have hs := sm_bd hv i
    have hxb := hx.bd
    simp only at hxb
    have hxi := hxb i (by omega)
    have x0 := sm_le (f := fun _ => 0) (g := fun j => rd x (j : Int)) (n := i) (fun j hj => (hxb j (by omega)).1)
    have x1 := sm_le (f := fun j => rd x (j : Int)) (g := fun _ => 1000001) (n := i) (fun j hj => (hxb j (by omega)).2)
    rw [sm_const] at x0 x1
    have hlen : ((secs v v.length).length : Int) = v.length := by simp [secs]
    have e1 : wrap64 (sm (V v) i + rd v (i : Int)) = sm (V v) (i + 1) := by rw [wz (by omega) (by omega)]; rfl
    have e2 : wrap64 (sm (fun j => rd x (j : Int)) i + rd x (i : Int)) = sm (fun j => rd x (j : Int)) (i + 1) := by rw [wz (by omega) (by omega)]; rfl
    refine EvP.step (fun k => by simp only [ck_ChartPartsOfWhole.l0]; rfl) (EvP.pos (by omega) (EvP.pos (by omega) (EvP.pos (by omega) ?_)))
    rw [secs_rd (by omega), e1, e2]
    simp only
    refine EvP.pos (by simp) (EvP.neg (by have := at_mono hv i; omega) (EvP.pos (by simp) (EvP.pos (by omega) (EvP.pos (by omega) ?_))))
    exact law_l1 hn1 hn6 hx (by omega) (ih (i + 1) (by omega)) v.length 0 (by omega)
end law

theorem ChartPartsOfWhole : ChartPartsOfWhole_Pure := by
  intro c hc
  have hw : ∀ s ∈ c.f2, ∀ n ∈ s, (Lit.int .i64 n).wf = true := fun s hs => (hc.2.2.1 s hs).1
  refine EvP.rounds (g := fun k => ck_ChartPartsOfWhole.f k c.f0 c.f1 c.f2) ?_
  unfold ck_ChartPartsOfWhole.f
  refine EvP.bind charted_ok (fun t ht => EvP.pos ht ?_)
  refine EvP.bind (bars_ok hw) (fun r hr => ?_)
  obtain ⟨q, ns, ser⟩ := r
  obtain ⟨hk, v, hser, hns, hn1, hn6, hv⟩ := hr
  simp only at hk hser hns
  subst hk; subst hser
  have e0 : rd_L1 [v] 0 = v := rfl
  refine EvP.pos (by simp) ?_
  simp only [e0]
  refine EvP.bind (sectors_ok hv hn1 hn6 hns) (fun s hs => ?_)
  refine EvP.bind (shares_ok hv hn1 hn6) (fun y hy => ?_)
  obtain ⟨x, z⟩ := y
  have hz := hy.ok
  simp only at hz
  subst hz
  refine EvP.pos hs.1 (EvP.pos rfl ?_)
  rw [hs.2]
  refine EvP.pos (by simp [secs]) (EvP.pos (by have := hy.len; simp only at this ⊢; omega) ?_)
  have := law_l0 hv hn1 hn6 hy v.length 0 (by omega)
  rw [at_zero] at this
  simpa [sm] using this

end Go.Proofs.Ytohaoaiffneamaa.Pure
