/- Plain laws about the widths of columns: what a cell needs, what is spread and shared, and that the parts add up. For the two statements on balance. No program is in sight but its printed functions; each lemma states its own conditions. -/
import Derived.Test.YtohaoaiffneamaaTypBalanceAddsUp
import Derived.Test.YtohaoaiffneamaaQBalancex5
import Derived.Test.YtohaoaiffneamaaQBalancex4
import Derived.Test.YtohaoaiffneamaaQBalancex2
namespace Go.Proofs.Ytohaoaiffneamaa.Pure
open Go.RowKit Go.Proofs.Ytohaoaiffneamaa.QBalance Go.Proofs.YtohaoaiffneamaaW.PrintWords Go.Proofs.YtohaoaiffneamaaW.PrintLast Go.Proofs.YtohaoaiffneamaaW.PrintMore
set_option linter.unusedVariables false
set_option linter.unusedSimpArgs false

/-- From some number of rounds on the answer is there, and it is as told. -/
def EvP {α : Type} (g : Nat → Option α) (P : α → Prop) : Prop := ∃ r, Ev g r ∧ P r
theorem EvP.ret {α : Type} {r : α} {P : α → Prop} (h : P r) : EvP (fun _ => some r) P := ⟨r, Ev.now r, h⟩
theorem EvP.cst {α : Type} {g : Option α} {r : α} {P : α → Prop} (e : g = some r) (h : P r) : EvP (fun _ => g) P := ⟨r, ⟨0, fun _ _ => e⟩, h⟩
theorem EvP.bind {α β : Type} {g : Nat → Option α} {f : Nat → α → Option β} {P : α → Prop} {Q : β → Prop} (h : EvP g P) (k : ∀ a, P a → EvP (fun n => f n a) Q) : EvP (fun n => (g n).bind (f n)) Q := by
  obtain ⟨a, ha, hp⟩ := h
  obtain ⟨r, hr, hq⟩ := k a hp
  exact ⟨r, Ev.bind ha hr, hq⟩
theorem EvP.ite {α : Type} {c : Prop} [Decidable c] {a b : Nat → Option α} {Q : α → Prop} (h : c → EvP a Q) (k : ¬ c → EvP b Q) : EvP (fun n => if c then a n else b n) Q := by
  by_cases hc : c
  · simp only [if_pos hc]; exact h hc
  · simp only [if_neg hc]; exact k hc
theorem EvP.pos {α : Type} {c : Prop} [Decidable c] {a b : Nat → Option α} {Q : α → Prop} (hc : c) (h : EvP a Q) : EvP (fun n => if c then a n else b n) Q := by
  simp only [if_pos hc]; exact h
theorem EvP.neg {α : Type} {c : Prop} [Decidable c] {a b : Nat → Option α} {Q : α → Prop} (hc : ¬ c) (h : EvP b Q) : EvP (fun n => if c then a n else b n) Q := by
  simp only [if_neg hc]; exact h
theorem EvP.step {α : Type} {g f : Nat → Option α} {Q : α → Prop} (h : ∀ k, g (k + 1) = f k) (k : EvP f Q) : EvP g Q := by
  obtain ⟨r, hr, hq⟩ := k
  exact ⟨r, Ev.step h hr, hq⟩
theorem EvP.congr {α : Type} {g f : Nat → Option α} {Q : α → Prop} (h : ∀ k, g k = f k) (k : EvP f Q) : EvP g Q := by
  obtain ⟨r, hr, hq⟩ := k
  exact ⟨r, Ev.congr h hr, hq⟩
theorem EvP.mono {α : Type} {g : Nat → Option α} {P Q : α → Prop} (h : EvP g P) (k : ∀ r, P r → Q r) : EvP g Q := by
  obtain ⟨r, hr, hp⟩ := h
  exact ⟨r, hr, k r hp⟩
theorem EvP.rounds {α : Type} {g : Nat → Option α} {r : α} (h : EvP g (· = r)) : ∃ k, g k = some r := by
  obtain ⟨q, hq, rfl⟩ := h
  exact hq.rounds
theorem EvP.ev {α : Type} {g : Nat → Option α} {r : α} (h : Ev g r) : EvP g (· = r) := ⟨r, h, rfl⟩
/-- What has no rounds, told as what has some. -/
theorem EvP.plain {α : Type} {g : Option α} {P : α → Prop} (h : EvP (fun _ => g) P) : ∃ r, g = some r ∧ P r := by
  obtain ⟨r, ⟨K, hK⟩, hp⟩ := h
  exact ⟨r, hK K (Nat.le_refl _), hp⟩
theorem wz {n : Int} (h : -9223372036854775808 ≤ n) (k : n ≤ 9223372036854775807) : wrap64 n = n := by
  unfold wrap64; omega
theorem bounds64 {n : Int} (h : (Lit.int .i64 n).wf = true) : -9223372036854775808 ≤ n ∧ n ≤ 9223372036854775807 := by
  simp [Lit.wf, IntKind.min, IntKind.max, IntKind.signed, IntKind.bits] at h
  omega

theorem Ev.det {α : Type} {g : Nat → Option α} {r q : α} (h : Ev g r) (k : Ev g q) : r = q := by
  obtain ⟨K, h⟩ := h
  obtain ⟨K', k⟩ := k
  have h1 := h (max K K') (by omega)
  have h2 := k (max K K') (by omega)
  exact Option.some.inj (h1.symm.trans h2)
theorem wc {i n : Nat} (h : i < n) (hn : n ≤ 1000000) : wrap64 ((i : Int) + 1) = ((i + 1 : Nat) : Int) := by
  rw [wz (by omega) (by omega)]; omega
def sm (f : Nat → Int) : Nat → Int
  | 0 => 0
  | i + 1 => sm f i + f i
theorem sm_congr {f g : Nat → Int} {n : Nat} (h : ∀ j, j < n → f j = g j) : sm f n = sm g n := by
  induction n with
  | zero => rfl
  | succ n ih => simp only [sm]; rw [ih (fun j hj => h j (by omega)), h n (by omega)]
theorem sm_add {f g : Nat → Int} {n : Nat} : sm (fun j => f j + g j) n = sm f n + sm g n := by
  induction n with
  | zero => rfl
  | succ n ih => simp only [sm]; rw [ih]; omega
theorem sm_sub {f g : Nat → Int} {n : Nat} : sm (fun j => f j - g j) n = sm f n - sm g n := by
  induction n with
  | zero => rfl
  | succ n ih => simp only [sm]; rw [ih]; omega
theorem sm_le {f g : Nat → Int} {n : Nat} (h : ∀ j, j < n → f j ≤ g j) : sm f n ≤ sm g n := by
  induction n with
  | zero => exact Int.le_refl _
  | succ n ih => simp only [sm]; have := ih (fun j hj => h j (by omega)); have := h n (by omega); omega
theorem sm_const {c : Int} {n : Nat} : sm (fun _ => c) n = n * c := by
  induction n with
  | zero => simp [sm]
  | succ n ih => simp only [sm]; rw [ih, show ((n + 1 : Nat) : Int) = (n : Int) + 1 by omega, Int.add_mul, Int.one_mul]
theorem sm_one_le {f : Nat → Int} {n i : Nat} (h : ∀ j, j < n → 0 ≤ f j) (hi : i < n) : f i ≤ sm f n := by
  induction n with
  | zero => omega
  | succ n ih =>
    simp only [sm]
    have h0 := sm_le (f := fun _ => 0) (g := f) (n := n) (fun j hj => h j (by omega))
    rw [sm_const] at h0
    by_cases e : i = n
    · subst e; omega
    · have := ih (fun j hj => h j (by omega)) (by omega); have := h n (by omega); omega
theorem sm_ind {m n : Nat} (h : m ≤ n) : sm (fun j => if (j : Int) < (m : Int) then 1 else 0) n = m := by
  induction n with
  | zero => simp [sm]; omega
  | succ n ih =>
    simp only [sm]
    by_cases e : m = n + 1
    · subst e
      rw [sm_congr (g := fun _ => 1) (fun j hj => if_pos (by omega)), sm_const, if_pos (by omega)]; omega
    · rw [ih (by omega), if_neg (by omega)]; omega
theorem rd_nat (l : List Int) (i : Nat) : rd l (i : Int) = l[i]?.getD 0 := by unfold rd; rw [Int.toNat_natCast, List.getD_eq_getElem?_getD]
theorem rd_set {l : List Int} {i j : Nat} {a : Int} (h : i < l.length) : rd (l.set i a) (j : Int) = if j = i then a else rd l (j : Int) := by
  rw [rd_nat, rd_nat, List.getElem?_set]
  by_cases e : i = j
  · subst e; simp [h]
  · rw [if_neg e, if_neg (by omega)]
theorem rd_zeros (n : Nat) (j : Nat) : rd (List.replicate n 0) (j : Int) = 0 := by
  rw [rd_nat, List.getElem?_replicate]; split <;> rfl
theorem rd_out {l : List Int} {j : Nat} (h : l.length ≤ j) : rd l (j : Int) = 0 := by
  rw [rd_nat, List.getElem?_eq_none h]; rfl
theorem rd_part {l : List Int} {a m j : Nat} (h : j < m) : rd ((l.drop a).take m) (j : Int) = rd l ((a + j : Nat) : Int) := by
  rw [rd_nat, rd_nat, List.getElem?_take, if_pos h, List.getElem?_drop]
theorem rd_splice {l q : List Int} {a m : Nat} (hq : q.length = m) (ham : a + m ≤ l.length) (j : Nat) : rd (l.take a ++ (q ++ l.drop (a + m))) (j : Int) = if a ≤ j ∧ j < a + m then rd q ((j - a : Nat) : Int) else rd l (j : Int) := by
  rw [rd_nat, rd_nat, rd_nat]
  have hl : (l.take a).length = a := by rw [List.length_take]; omega
  by_cases h1 : j < a
  · rw [List.getElem?_append_left (by omega), List.getElem?_take, if_pos h1, if_neg (by omega)]
  · rw [List.getElem?_append_right (by omega), hl]
    by_cases h2 : j < a + m
    · rw [List.getElem?_append_left (by omega), if_pos ⟨by omega, h2⟩]
    · rw [List.getElem?_append_right (by omega), List.getElem?_drop, if_neg (by omega), hq, show a + m + (j - a - m) = j by omega]
theorem within_ok {x lo hi : Int} (hx : -9223372036854775808 ≤ x ∧ x ≤ 9223372036854775807) (h : lo ≤ hi) (hlo : -4611686018427387904 ≤ lo) (hhi : hi ≤ 4611686018427387904) (hd : hi - lo < 2305843009213693952) :
    ∃ r, ck_within.f x lo hi = some r ∧ lo ≤ r ∧ r ≤ hi := by
  unfold ck_within.f
  rw [wz (n := hi - lo) (by omega) (by omega), wz (n := hi - lo + 1) (by omega) (by omega)]
  obtain ⟨n, hn⟩ : ∃ n, n = hi - lo + 1 := ⟨_, rfl⟩
  rw [← hn, if_neg (by omega)]
  have t1 : -n < Int.tmod x n ∧ Int.tmod x n < n := by
    constructor
    · by_cases h0 : 0 ≤ x
      · have := Int.tmod_nonneg n h0; omega
      · obtain ⟨m, rfl⟩ : ∃ m, x = -m := ⟨-x, by omega⟩
        rw [Int.neg_tmod]
        have := Int.tmod_lt_of_pos m (show 0 < n by omega)
        omega
    · exact Int.tmod_lt_of_pos x (by omega)
  rw [wz (n := Int.tmod x n + n) (by omega) (by omega)]
  have t2 := Int.tmod_nonneg n (show 0 ≤ Int.tmod x n + n by omega)
  have t3 := Int.tmod_lt_of_pos (Int.tmod x n + n) (show 0 < n by omega)
  refine ⟨_, rfl, ?_, ?_⟩
  · rw [wz (by omega) (by omega)]; omega
  · rw [wz (by omega) (by omega)]; omega
theorem within_ev {x lo hi : Int} (hx : -9223372036854775808 ≤ x ∧ x ≤ 9223372036854775807) (h : lo ≤ hi) (hlo : -4611686018427387904 ≤ lo) (hhi : hi ≤ 4611686018427387904) (hd : hi - lo < 2305843009213693952) :
    EvP (fun _ => ck_within.f x lo hi) (fun r => lo ≤ r ∧ r ≤ hi) := by
  obtain ⟨r, e, h⟩ := within_ok hx h hlo hhi hd
  exact EvP.cst e h
/-- A row of numbers from 0 to B. -/
def In (B : Int) (l : List Int) : Prop := ∀ j : Nat, 0 ≤ rd l (j : Int) ∧ rd l (j : Int) ≤ B
/-- Its sum. -/
def tot (l : List Int) : Int := sm (fun j => rd l (j : Int)) l.length
theorem sm_in {B : Int} {l : List Int} (h : In B l) (i : Nat) : 0 ≤ sm (fun j => rd l (j : Int)) i ∧ sm (fun j => rd l (j : Int)) i ≤ i * B := by
  have h1 := sm_le (f := fun _ => 0) (g := fun j => rd l (j : Int)) (n := i) (fun j _ => (h j).1)
  have h2 := sm_le (f := fun j => rd l (j : Int)) (g := fun _ => B) (n := i) (fun j _ => (h j).2)
  rw [sm_const] at h1 h2
  omega
theorem mul_bd {i B : Int} (h0 : 0 ≤ i) (h1 : i ≤ 64) (hB : 0 ≤ B) (hB1 : B ≤ 1000000) : 0 ≤ i * B ∧ i * B ≤ 64000000 := by
  have h2 := Int.mul_nonneg h0 hB
  have h3 := Int.mul_le_mul h1 hB1 hB (by omega)
  omega
section sums
variable {B : Int} {l : List Int} (hB : 0 ≤ B) (hB1 : B ≤ 1000000) (h : In B l) (hn : l.length ≤ 64)
include hB hB1 h hn
theorem sum_l0 (d : Nat) : ∀ i : Nat, i + d = l.length → EvP (fun k => balance_sum.l0 k (sm (fun j => rd l (j : Int)) i) l (l.length : Int) (i : Int)) (· = tot l) := by
  induction d with
  | zero =>
    intro i hi
    obtain rfl : i = l.length := by omega
    exact EvP.step (fun k => by simp only [balance_sum.l0]; rfl) (EvP.neg (by omega) (EvP.ret rfl))
  | succ d ih =>
    intro i hi
    have hs := sm_in h i
    have hb := mul_bd (i := (i : Int)) (by omega) (by omega) hB hB1
    have hj := h i
    have e : wrap64 (sm (fun j => rd l (j : Int)) i + rd l (i : Int)) = sm (fun j => rd l (j : Int)) (i + 1) := by rw [wz (by omega) (by omega)]; rfl
    refine EvP.step (fun k => by simp only [balance_sum.l0]; rfl) (EvP.pos (by omega) (EvP.pos (by omega) (EvP.pos (by omega) ?_)))
    rw [e, wc (n := l.length) (by omega) (by omega)]
    exact ih (i + 1) (by omega)
theorem sum_ok : EvP (fun k => balance_sum.f k l) (· = tot l) := by
  unfold balance_sum.f
  exact sum_l0 hB hB1 h hn l.length 0 (by omega)
theorem tot_bd : 0 ≤ tot l ∧ tot l ≤ 64000000 := by
  have hs := sm_in h l.length
  have hb := mul_bd (i := (l.length : Int)) (by omega) (by omega) hB hB1
  unfold tot; omega
/-- What is added to place j. -/
def more (n : Int) (m j : Nat) : Int := n / m + (if (j : Int) < n % m then 1 else 0)
omit hB hB1 h hn in
theorem more_nonneg {n : Int} {m j : Nat} (h0 : 0 ≤ n) : 0 ≤ more n m j := by
  unfold more
  have := Int.ediv_nonneg h0 (show (0 : Int) ≤ (m : Int) by omega)
  split <;> omega
omit hB hB1 h hn in
theorem more_sum {n : Int} {m : Nat} (hm : 1 ≤ m) : sm (more n m) m = n := by
  have e : sm (more n m) m = sm (fun _ => n / m) m + sm (fun j => if (j : Int) < ((n % m).toNat : Int) then 1 else 0) m := by
    rw [← sm_add]
    refine sm_congr (fun j _ => ?_)
    unfold more
    rw [Int.toNat_of_nonneg (Int.emod_nonneg _ (by omega))]
  have hl := Int.emod_lt_of_pos n (show (0 : Int) < (m : Int) by omega)
  have h0 := Int.emod_nonneg n (show (m : Int) ≠ 0 by omega)
  rw [e, sm_const, sm_ind (by omega), Int.toNat_of_nonneg h0]
  exact Int.mul_ediv_add_emod n m
theorem spread_ok {n : Int} (hn0 : 0 ≤ n) (hn1 : n ≤ 1000000) (hl : 1 ≤ l.length) :
    EvP (fun k => balance_spread.f k l n) (fun r => r.length = l.length ∧ (∀ j : Nat, j < l.length → rd r (j : Int) = rd l (j : Int) + more n l.length j) ∧ tot r = tot l + n) := by
  have key : ∀ (d i : Nat) (x : List Int), i + d = l.length → x.length = l.length → (∀ j : Nat, rd x (j : Int) = if j < i then rd l (j : Int) + more n l.length j else rd l (j : Int)) →
      EvP (fun k => balance_spread.l0 k x n (l.length : Int) (i : Int)) (fun r => r.length = l.length ∧ (∀ j : Nat, j < l.length → rd r (j : Int) = rd l (j : Int) + more n l.length j) ∧ tot r = tot l + n) := by
    intro d
    induction d with
    | zero =>
      intro i x hi hx hj
      have hv : ∀ j : Nat, j < l.length → rd x (j : Int) = rd l (j : Int) + more n l.length j := fun j hjl => by rw [hj j, if_pos (by omega)]
      refine EvP.step (fun k => by simp only [balance_spread.l0]; rfl) (EvP.neg (by omega) (EvP.ret ⟨hx, hv, ?_⟩))
      unfold tot
      rw [hx, sm_congr hv, sm_add, more_sum hl]
    | succ d ih =>
      intro i x hi hx hj
      have hxi : rd x (i : Int) = rd l (i : Int) := by rw [hj i, if_neg (by omega)]
      have hli := h i
      have dq : 0 ≤ n / (l.length : Int) ∧ n / (l.length : Int) ≤ n := ⟨Int.ediv_nonneg hn0 (by omega), Int.ediv_le_self _ hn0⟩
      refine EvP.step (fun k => by simp only [balance_spread.l0]; rfl) (EvP.pos (by omega) (EvP.neg (by omega) ?_))
      rw [hx, Int.tmod_eq_emod_of_nonneg hn0, Int.tdiv_eq_ediv_of_nonneg hn0, hxi, Int.toNat_natCast, wc (n := l.length) (by omega) (by omega), wz (n := n / (l.length : Int)) (by omega) (by omega), wz (n := n / (l.length : Int) + 1) (by omega) (by omega), wz (n := rd l (i : Int) + (n / (l.length : Int) + 1)) (by omega) (by omega), wz (n := rd l (i : Int) + n / (l.length : Int)) (by omega) (by omega)]
      have step : ∀ v, v = rd l (i : Int) + more n l.length i → EvP (fun k => balance_spread.l0 k (x.set i v) n (l.length : Int) ((i + 1 : Nat) : Int)) (fun r => r.length = l.length ∧ (∀ j : Nat, j < l.length → rd r (j : Int) = rd l (j : Int) + more n l.length j) ∧ tot r = tot l + n) := fun v hv => by
        refine ih (i + 1) _ (by omega) (by rw [List.length_set]; exact hx) (fun j => ?_)
        rw [rd_set (by omega)]
        by_cases e : j = i
        · subst e; rw [if_pos rfl, if_pos (by omega), hv]
        · rw [if_neg e, hj j]
          by_cases e2 : j < i
          · rw [if_pos e2, if_pos (by omega)]
          · rw [if_neg e2, if_neg (by omega)]
      refine EvP.ite (fun hc => EvP.pos (by omega) (EvP.pos (by omega) (step _ ?_))) (fun hc => EvP.pos (by omega) (EvP.pos (by omega) (step _ ?_)))
      · unfold more; rw [if_pos hc]
      · unfold more; rw [if_neg hc]; omega
  unfold balance_spread.f
  exact key l.length 0 l (by omega) rfl (fun j => by rw [if_neg (by omega)])
end sums
/-! needs -/
section needs
variable {n : Nat} (hn1 : 1 ≤ n) (hn8 : n ≤ 64) {B : Int} (hB : 0 ≤ B) (hB1 : B ≤ 31680) {p : S80 → Int}
/-- A cell that fits into n columns. -/
def CellOk (n : Nat) (c : S80) : Prop := 0 ≤ c.f0 ∧ 1 ≤ c.f1 ∧ c.f0 + c.f1 ≤ (n : Int)
/-- What the columns of a cell have together. -/
def part (o : List Int) (c : S80) : Int := sm (fun j => rd o ((c.f0.toNat + j : Nat) : Int)) c.f1.toNat
def Ge (o o' : List Int) : Prop := ∀ j : Nat, rd o (j : Int) ≤ rd o' (j : Int)
theorem Ge.refl (o : List Int) : Ge o o := fun _ => Int.le_refl _
theorem Ge.trans {a b c : List Int} (h : Ge a b) (k : Ge b c) : Ge a c := fun j => Int.le_trans (h j) (k j)
theorem part_le {o o' : List Int} (h : Ge o o') (c : S80) : part o c ≤ part o' c := sm_le (fun _ _ => h _)
include hn8 hB hB1
theorem step_ok {out : List Int} {c : S80} {span : Nat} (hl : out.length = n) (hi : In B out) (hc : CellOk n c) (hs : 1 ≤ span) (hp : 0 ≤ p c ∧ p c ≤ B) :
    EvP (fun k => bal_step k p (span : Int) out c) (fun o => o.length = n ∧ In B o ∧ Ge out o ∧ (c.f1 = (span : Int) → p c ≤ part o c)) := by
  unfold bal_step
  obtain ⟨h0, h1, h2⟩ := hc
  refine EvP.ite (fun he => ?_) (fun he => EvP.ret ⟨hl, hi, Ge.refl _, fun h => absurd h he⟩)
  refine EvP.pos ⟨h0, by omega, by omega⟩ ?_
  obtain ⟨a, ha⟩ : ∃ a : Nat, c.f0 = (a : Int) := ⟨c.f0.toNat, by omega⟩
  rw [ha, Int.toNat_natCast, Int.toNat_natCast]
  have hcl : ((out.drop a).take span).length = span := by rw [List.length_take, List.length_drop]; omega
  have hci : In B ((out.drop a).take span) := fun j => by
    by_cases hj : j < span
    · rw [rd_part hj]; exact hi _
    · rw [rd_out (by omega)]; exact ⟨Int.le_refl _, hB⟩
  have hpt : part out c = tot ((out.drop a).take span) := by
    unfold part tot
    rw [hcl, he, ha, Int.toNat_natCast, Int.toNat_natCast]
    exact sm_congr (fun j hj => (rd_part hj).symm)
  have ht := tot_bd hB (by omega) hci (by omega)
  refine EvP.bind (sum_ok hB (by omega) hci (by omega)) (fun t hte => ?_)
  subst hte
  rw [wz (n := p c - tot ((out.drop a).take span)) (by omega) (by omega)]
  refine EvP.ite (fun hpos => ?_) (fun hpos => EvP.ret ⟨hl, hi, Ge.refl _, fun _ => by rw [hpt]; omega⟩)
  refine EvP.bind (spread_ok hB (by omega) hci (by omega) (n := p c - tot ((out.drop a).take span)) (by omega) (by omega) (by omega)) (fun q hq => EvP.ret ?_)
  obtain ⟨hql, hqv, hqt⟩ := hq
  rw [hcl] at hql hqv
  have hq0 : ∀ j : Nat, j < span → 0 ≤ rd q (j : Int) := fun j hj => by
    have := hqv j hj
    have := (hci j).1
    have := more_nonneg (n := p c - tot ((out.drop a).take span)) (m := span) (j := j) (by omega)
    omega
  have hsp := fun j => rd_splice (l := out) (q := q) (a := a) (m := span) hql (by omega) j
  refine ⟨?_, fun j => ?_, fun j => ?_, fun _ => ?_⟩
  · rw [List.length_append, List.length_append, List.length_take, List.length_drop]; omega
  · rw [hsp j]
    split
    · rename_i hj
      refine ⟨hq0 _ (by omega), ?_⟩
      have := sm_one_le (f := fun j => rd q (j : Int)) (n := span) (i := j - a) hq0 (by omega)
      unfold tot at hqt
      rw [hql] at hqt
      have e : sm (fun j => rd q (j : Int)) span = p c := by rw [hqt]; omega
      omega
    · exact hi j
  · rw [hsp j]
    split
    · rename_i hj
      rw [hqv _ (by omega), rd_part (by omega), show a + (j - a) = j by omega]
      have := more_nonneg (n := p c - tot ((out.drop a).take span)) (m := span) (j := j - a) (by omega)
      omega
    · exact Int.le_refl _
  · have e : part (out.take a ++ (q ++ out.drop (a + span))) c = tot q := by
      unfold part tot
      rw [hql, he, ha, Int.toNat_natCast, Int.toNat_natCast]
      refine sm_congr (fun j hj => ?_)
      rw [hsp (a + j), if_pos ⟨by omega, by omega⟩, show a + j - a = j by omega]
    rw [e, hqt]; omega
theorem row_ok {span : Nat} (hs : 1 ≤ span) (l : List S80) (hc : ∀ c ∈ l, CellOk n c) (hp : ∀ c ∈ l, 0 ≤ p c ∧ p c ≤ B) : ∀ out : List Int, out.length = n → In B out →
    EvP (fun k => bal_row k p (span : Int) l out) (fun o => o.length = n ∧ In B o ∧ Ge out o ∧ ∀ c ∈ l, c.f1 = (span : Int) → p c ≤ part o c) := by
  induction l with
  | nil => intro out hl hi; exact EvP.congr (fun k => rfl) (EvP.ret ⟨hl, hi, Ge.refl _, fun c hc => by cases hc⟩)
  | cons c l ih =>
    intro out hl hi
    refine EvP.congr (f := fun k => (bal_step k p (span : Int) out c).bind fun o => bal_row k p (span : Int) l o) (fun k => rfl) ?_
    refine EvP.bind (step_ok hn8 hB hB1 hl hi (hc c (by simp)) hs (hp c (by simp))) (fun o ho => ?_)
    refine EvP.mono (ih (fun c h => hc c (by simp [h])) (fun c h => hp c (by simp [h])) o ho.1 ho.2.1) (fun o2 h2 => ?_)
    refine ⟨h2.1, h2.2.1, ho.2.2.1.trans h2.2.2.1, fun c' hc' he => ?_⟩
    rcases List.mem_cons.1 hc' with rfl | hc'
    · exact Int.le_trans (ho.2.2.2 he) (part_le h2.2.2.1 _)
    · exact h2.2.2.2 c' hc' he
theorem spans_ok (l : List S80) (hc : ∀ c ∈ l, CellOk n c) (hp : ∀ c ∈ l, 0 ≤ p c ∧ p c ≤ B) (d : Nat) : ∀ (span : Nat) (out : List Int), 1 ≤ span → out.length = n → In B out →
    EvP (fun k => bal_spans k p l d (span : Int) out) (fun o => o.length = n ∧ In B o ∧ Ge out o ∧ ∀ c ∈ l, (span : Int) ≤ c.f1 → c.f1 < (span : Int) + d → p c ≤ part o c) := by
  induction d with
  | zero => intro span out hs hl hi; exact EvP.congr (fun k => rfl) (EvP.ret ⟨hl, hi, Ge.refl _, fun c _ h1 h2 => by omega⟩)
  | succ d ih =>
    intro span out hs hl hi
    refine EvP.congr (f := fun k => (bal_row k p (span : Int) l out).bind fun o => bal_spans k p l d ((span : Int) + 1) o) (fun k => rfl) ?_
    refine EvP.bind (row_ok hn8 hB hB1 hs l hc hp out hl hi) (fun o ho => ?_)
    have h := ih (span + 1) o (by omega) ho.1 ho.2.1
    rw [show ((span + 1 : Nat) : Int) = (span : Int) + 1 by omega] at h
    refine EvP.mono h (fun o2 h2 => ⟨h2.1, h2.2.1, ho.2.2.1.trans h2.2.2.1, fun c hc h3 h4 => ?_⟩)
    by_cases e : c.f1 = (span : Int)
    · exact Int.le_trans (ho.2.2.2 c hc e) (part_le h2.2.2.1 _)
    · exact h2.2.2.2 c hc (by omega) (by omega)
theorem needs_ok (l : List S80) (hc : ∀ c ∈ l, CellOk n c) (hp : ∀ c ∈ l, 0 ≤ p c ∧ p c ≤ B) :
    EvP (fun k => bal_needs k p (n : Int) l) (fun o => o.length = n ∧ In B o ∧ ∀ c ∈ l, p c ≤ part o c) := by
  unfold bal_needs
  rw [Int.toNat_natCast]
  refine EvP.mono (spans_ok hn8 hB hB1 l hc hp n 1 (List.replicate n 0) (by omega) (by simp) (fun j => by rw [rd_zeros]; omega)) (fun o h => ⟨h.1, h.2.1, fun c hm => h.2.2.2 c hm ?_ ?_⟩)
  · have := (hc c hm).2.1; omega
  · have := hc c hm; unfold CellOk at this; omega
end needs

/-! the check, and both needs -/
section both
variable {n : Nat} (hn1 : 1 ≤ n) (hn8 : n ≤ 64) {l : List S80}
/-- A cell of the law's making. -/
def Cell (n : Nat) (c : S80) : Prop := CellOk n c ∧ 0 ≤ c.f2 ∧ c.f2 ≤ 31680 ∧ 0 ≤ c.f3 ∧ c.f3 ≤ 31680
theorem mem_rd {l : List S80} {i : Nat} (h : i < l.length) : rd_T80 l (i : Int) ∈ l := by
  unfold rd_T80
  rw [Int.toNat_natCast, List.getD_eq_getElem?_getD, List.getElem?_eq_getElem h]
  exact List.getElem_mem h
include hn8 in
theorem check_l0 (hl : l.length ≤ 4000) (hc : ∀ c ∈ l, Cell n c) (d : Nat) : ∀ i : Nat, i + d = l.length → EvP (fun k => balance_Check.l0 k (n : Int) l (l.length : Int) (i : Int)) (· = 0) := by
  induction d with
  | zero =>
    intro i hi
    exact EvP.step (fun k => by simp only [balance_Check.l0]; rfl) (EvP.neg (by omega) (EvP.ret rfl))
  | succ d ih =>
    intro i hi
    obtain ⟨⟨c1, c2, c3⟩, c4, c5, c6, c7⟩ := hc _ (mem_rd (l := l) (i := i) (by omega))
    refine EvP.step (fun k => by simp only [balance_Check.l0]; rfl) (EvP.pos (by omega) (EvP.pos (by omega) (EvP.pos (by omega) ?_)))
    rw [wz (n := (n : Int) - (rd_T80 l (i : Int)).f0) (by omega) (by omega), wc (n := l.length) (by omega) (by omega)]
    refine EvP.neg (by omega) (EvP.neg (by omega) (EvP.neg (by omega) (EvP.neg (by omega) (EvP.neg (by omega) (EvP.neg (by omega) (EvP.neg (by omega) (EvP.neg (by omega) ?_)))))))
    exact ih (i + 1) (by omega)
include hn1 hn8 in
theorem check_ok (hl : l.length ≤ 4000) (hc : ∀ c ∈ l, Cell n c) : EvP (fun k => balance_Check.f k (n : Int) l) (· = 0) := by
  unfold balance_Check.f
  refine EvP.neg (by omega) ?_
  refine EvP.step (fun k => by simp only [balance_Check.j0]; rfl) (EvP.neg (by simp; omega) (EvP.neg (by omega) ?_))
  exact check_l0 hn8 hl hc l.length 0 (by omega)
/-- Both needs. -/
structure NeedsOk (n : Nat) (l : List S80) (r : List Int × List Int × Int) : Prop where
  ok : r.2.2 = 0
  llo : r.1.length = n
  lhi : r.2.1.length = n
  ilo : In 31680 r.1
  ihi : In 31680 r.2.1
  le : Ge r.1 r.2.1
  min : ∀ c ∈ l, c.f2 ≤ part r.1 c
theorem mx_ge (a b : Int) : a ≤ mx a b ∧ b ≤ mx a b := by unfold mx; split <;> omega
include hn8 in
theorem needs_l0 {lo hi : List Int} (h1 : lo.length = n) (h2 : hi.length = n) (i1 : In 31680 lo) (i2 : In 31680 hi) (hm : ∀ c ∈ l, c.f2 ≤ part lo c) (d : Nat) : ∀ (i : Nat) (x : List Int), i + d = n → x.length = n → (∀ j : Nat, rd x (j : Int) = if j < i then mx (rd hi (j : Int)) (rd lo (j : Int)) else rd hi (j : Int)) →
    EvP (fun k => balance_Needs.l0 k lo x (n : Int) (i : Int)) (NeedsOk n l) := by
  induction d with
  | zero =>
    intro i x hi' hx hj
    refine EvP.step (fun k => by simp only [balance_Needs.l0]; rfl) (EvP.neg (by omega) (EvP.ret ⟨rfl, h1, hx, i1, fun j => ?_, fun j => ?_, hm⟩))
    · simp only; rw [hj j]
      have a := i1 j; have b := i2 j
      split
      · unfold mx; split <;> omega
      · exact b
    · simp only; rw [hj j]
      have := mx_ge (rd hi (j : Int)) (rd lo (j : Int))
      split
      · omega
      · rw [rd_out (l := lo) (by omega), rd_out (l := hi) (by omega)]; omega
  | succ d ih =>
    intro i x hi' hx hj
    refine EvP.step (fun k => by simp only [balance_Needs.l0]; rfl) (EvP.pos (by omega) (EvP.pos (by omega) (EvP.pos (by omega) (EvP.pos (by omega) ?_))))
    rw [Int.toNat_natCast, wc (n := n) (by omega) (by omega), hj i, if_neg (by omega)]
    refine ih (i + 1) _ (by omega) (by rw [List.length_set]; exact hx) (fun j => ?_)
    rw [rd_set (by omega)]
    by_cases e : j = i
    · subst e; rw [if_pos rfl, if_pos (by omega)]
    · rw [if_neg e, hj j]
      by_cases e2 : j < i
      · rw [if_pos e2, if_pos (by omega)]
      · rw [if_neg e2, if_neg (by omega)]
include hn1 hn8 in
theorem Needs_ok (hl : l.length ≤ 4000) (hc : ∀ c ∈ l, Cell n c) : EvP (fun k => balance_Needs.f k (n : Int) l) (NeedsOk n l) := by
  unfold balance_Needs.f balance_needs_43.f balance_needs_44.f
  refine EvP.bind (check_ok hn1 hn8 hl hc) (fun t ht => EvP.pos ht ?_)
  have b1 : EvP (fun k => if 1 ≤ (n : Int) ∧ (n : Int) ≤ 64 then bal_needs k (fun x => x.f2) (n : Int) l else none) (fun o => o.length = n ∧ In 31680 o ∧ ∀ c ∈ l, c.f2 ≤ part o c) :=
    EvP.pos (by omega) (needs_ok (p := fun x => x.f2) hn8 (by omega) (by omega) l (fun c h => (hc c h).1) (fun c h => by have := (hc c h).2; omega))
  have b2 : EvP (fun k => if 1 ≤ (n : Int) ∧ (n : Int) ≤ 64 then bal_needs k (fun x => mx x.f2 x.f3) (n : Int) l else none) (fun o => o.length = n ∧ In 31680 o ∧ ∀ c ∈ l, mx c.f2 c.f3 ≤ part o c) :=
    EvP.pos (by omega) (needs_ok (p := fun x => mx x.f2 x.f3) hn8 (by omega) (by omega) l (fun c h => (hc c h).1) (fun c h => by have := (hc c h).2; unfold mx; split <;> omega))
  refine EvP.bind b1 (fun lo hlo => EvP.bind b2 (fun hi hhi => ?_))
  have := needs_l0 hn8 (l := l) hlo.1 hhi.1 hlo.2.1 hhi.2.1 hlo.2.2 n 0 hi (by omega) hhi.1 (fun j => by rw [if_neg (by omega)])
  rw [hhi.1]
  exact this
end both
/-! shares, and the widths -/
section shares
variable {N : Int} {v : List Int} {B : Int} (hN0 : 0 ≤ N) (hN1 : N ≤ 31680) (hB : 0 ≤ B) (hB1 : B ≤ 31680) (hv : In B v) (hl1 : 1 ≤ v.length) (hl : v.length ≤ 64)
/-- The share of place j. -/
def shr (N : Int) (v : List Int) (j : Nat) : Int := N * sm (fun j => rd v (j : Int)) (j + 1) / tot v - N * sm (fun j => rd v (j : Int)) j / tot v
theorem shr_sum (hT : 0 < tot v) (i : Nat) : sm (shr N v) i = N * sm (fun j => rd v (j : Int)) i / tot v := by
  induction i with
  | zero => simp [sm]
  | succ i ih =>
    show sm (shr N v) i + shr N v i = _
    rw [ih]; unfold shr; omega
theorem shr_tot (hT : 0 < tot v) : sm (shr N v) v.length = N := by
  rw [shr_sum hT, show sm (fun j => rd v (j : Int)) v.length = tot v from rfl]
  exact Int.mul_ediv_cancel _ (by omega)
include hN0 hv in
theorem shr_nonneg (hT : 0 < tot v) (j : Nat) : 0 ≤ shr N v j := by
  unfold shr
  have h1 : sm (fun j => rd v (j : Int)) j ≤ sm (fun j => rd v (j : Int)) (j + 1) := by
    show _ ≤ sm _ j + rd v (j : Int); have := (hv j).1; omega
  have := Int.ediv_le_ediv hT (Int.mul_le_mul_of_nonneg_left h1 hN0)
  omega
/-- A part of a share: by what it lies between. -/
theorem shr_between (hT : 0 < tot v) (j : Nat) : N * rd v (j : Int) / tot v ≤ shr N v j ∧ shr N v j ≤ N * rd v (j : Int) / tot v + 1 := by
  unfold shr
  have e : N * sm (fun j => rd v (j : Int)) (j + 1) = N * sm (fun j => rd v (j : Int)) j + N * rd v (j : Int) := by
    show N * (sm _ j + rd v (j : Int)) = _; rw [Int.mul_add]
  rw [e]
  generalize N * sm (fun j => rd v (j : Int)) j = x
  generalize N * rd v (j : Int) = y
  generalize tot v = t at hT
  have hx := Int.mul_ediv_add_emod x t
  have hx0 := Int.emod_nonneg x (show t ≠ 0 by omega)
  have hx1 := Int.emod_lt_of_pos x hT
  have hy := Int.mul_ediv_add_emod y t
  have hy0 := Int.emod_nonneg y (show t ≠ 0 by omega)
  have hy1 := Int.emod_lt_of_pos y hT
  have e2 : x + y = (x % t + y % t) + t * (x / t + y / t) := by rw [Int.mul_add]; omega
  rw [e2, Int.add_mul_ediv_left _ _ (show t ≠ 0 by omega)]
  have a : 0 ≤ (x % t + y % t) / t := Int.ediv_nonneg (by omega) (by omega)
  have b : (x % t + y % t) / t < 2 := Int.ediv_lt_of_lt_mul hT (by omega)
  omega
include hv in
theorem shr_le (hT : 0 < tot v) (hNT : N ≤ tot v) (j : Nat) : shr N v j ≤ rd v (j : Int) := by
  have hj := (hv j).1
  unfold shr
  have e : N * sm (fun j => rd v (j : Int)) (j + 1) = N * sm (fun j => rd v (j : Int)) j + N * rd v (j : Int) := by
    show N * (sm _ j + rd v (j : Int)) = _; rw [Int.mul_add]
  have h1 : N * rd v (j : Int) ≤ tot v * rd v (j : Int) := Int.mul_le_mul_of_nonneg_right hNT hj
  have h2 : (N * sm (fun j => rd v (j : Int)) j + N * rd v (j : Int)) / tot v ≤ (N * sm (fun j => rd v (j : Int)) j + tot v * rd v (j : Int)) / tot v := Int.ediv_le_ediv hT (by omega)
  rw [Int.add_mul_ediv_left _ _ (show tot v ≠ 0 by omega)] at h2
  rw [e]; omega
include hN0 hN1 hB hB1 hv hl in
theorem prod_bd (i : Nat) (hi : i ≤ v.length) : 0 ≤ N * sm (fun j => rd v (j : Int)) i ∧ N * sm (fun j => rd v (j : Int)) i ≤ 100000000000 := by
  have hs := sm_in hv i
  have hb := mul_bd (i := (i : Int)) (B := B) (by omega) (by omega) hB (by omega)
  have hb2 : (i : Int) * B ≤ 64 * 31680 := Int.mul_le_mul (by omega) hB1 hB (by omega)
  have h1 := Int.mul_nonneg hN0 hs.1
  have h2 := Int.mul_le_mul hN1 (show sm (fun j => rd v (j : Int)) i ≤ 2027520 by omega) hs.1 (by omega)
  omega
include hN0 hN1 hB hB1 hv hl in
theorem share_l0 (hT : 0 < tot v) (d : Nat) : ∀ (i : Nat) (x : List Int), i + d = v.length → x.length = v.length → (∀ j : Nat, j < i → rd x (j : Int) = shr N v j) →
    EvP (fun k => balance_share.l0 k N x (tot v) (sm (fun j => rd v (j : Int)) i) v (v.length : Int) (i : Int)) (fun r => r.length = v.length ∧ ∀ j : Nat, j < v.length → rd r (j : Int) = shr N v j) := by
  induction d with
  | zero =>
    intro i x hi hx hj
    obtain rfl : i = v.length := by omega
    exact EvP.step (fun k => by simp only [balance_share.l0]; rfl) (EvP.neg (by omega) (EvP.ret ⟨hx, hj⟩))
  | succ d ih =>
    intro i x hi hx hj
    have hs := sm_in hv i
    have hs1 := sm_in hv (i + 1)
    have hb := mul_bd (i := (i : Int)) (B := B) (by omega) (by omega) hB (by omega)
    have p0 := prod_bd hN0 hN1 hB hB1 hv hl i (by omega)
    have p1 := prod_bd hN0 hN1 hB hB1 hv hl (i + 1) (by omega)
    have hvi := hv i
    have e1 : wrap64 (sm (fun j => rd v (j : Int)) i + rd v (i : Int)) = sm (fun j => rd v (j : Int)) (i + 1) := by rw [wz (by omega) (by omega)]; rfl
    have q0 : 0 ≤ N * sm (fun j => rd v (j : Int)) i / tot v ∧ N * sm (fun j => rd v (j : Int)) i / tot v ≤ 100000000000 := ⟨Int.ediv_nonneg p0.1 (by omega), Int.le_trans (Int.ediv_le_self _ p0.1) p0.2⟩
    have q1 : 0 ≤ N * sm (fun j => rd v (j : Int)) (i + 1) / tot v ∧ N * sm (fun j => rd v (j : Int)) (i + 1) / tot v ≤ 100000000000 := ⟨Int.ediv_nonneg p1.1 (by omega), Int.le_trans (Int.ediv_le_self _ p1.1) p1.2⟩
    refine EvP.step (fun k => by simp only [balance_share.l0]; rfl) (EvP.pos (by omega) (EvP.pos (by omega) (EvP.pos (by omega) (EvP.neg (by omega) (EvP.pos (by omega) ?_)))))
    rw [e1, wz (n := N * sm (fun j => rd v (j : Int)) (i + 1)) (by omega) (by omega), wz (n := N * sm (fun j => rd v (j : Int)) i) (by omega) (by omega), Int.tdiv_eq_ediv_of_nonneg p1.1, Int.tdiv_eq_ediv_of_nonneg p0.1, wz (n := N * sm (fun j => rd v (j : Int)) (i + 1) / tot v) (by omega) (by omega), wz (n := N * sm (fun j => rd v (j : Int)) i / tot v) (by omega) (by omega), wz (n := N * sm (fun j => rd v (j : Int)) (i + 1) / tot v - N * sm (fun j => rd v (j : Int)) i / tot v) (by omega) (by omega), Int.toNat_natCast, wc (n := v.length) (by omega) (by omega)]
    refine ih (i + 1) _ (by omega) (by rw [List.length_set]; exact hx) (fun j hj2 => ?_)
    rw [rd_set (by omega)]
    by_cases e : j = i
    · subst e; rw [if_pos rfl]; rfl
    · rw [if_neg e]; exact hj j (by omega)
/-- What share tells. -/
structure ShareOk (N : Int) (v r : List Int) : Prop where
  len : r.length = v.length
  val : 0 < tot v → ∀ j : Nat, j < v.length → rd r (j : Int) = shr N v j
  pos : ∀ j : Nat, 0 ≤ rd r (j : Int)
  sum : tot r = N
include hN0 hN1 hB hB1 hv hl hl1 in
theorem share_ok : EvP (fun k => balance_share.f k N v) (ShareOk N v) := by
  unfold balance_share.f
  have ht := tot_bd hB (by omega) hv (by omega)
  refine EvP.pos (by omega) (EvP.pos (by omega) ?_)
  refine EvP.bind (EvP.ret (P := (· = List.replicate v.length 0)) (by simp)) (fun y hy => ?_)
  subst hy
  refine EvP.bind (sum_ok hB (by omega) hv hl) (fun t hte => ?_)
  subst hte
  refine EvP.ite (fun h0 => ?_) (fun h0 => ?_)
  · have hz : In 0 (List.replicate v.length 0) := fun j => by rw [rd_zeros]; omega
    refine EvP.bind (spread_ok (B := 0) (by omega) (by omega) hz (by simpa using hl) hN0 (by omega) (by simpa using hl1)) (fun r hr => EvP.ret ?_)
    obtain ⟨h1, h2, h3⟩ := hr
    rw [List.length_replicate] at h1 h2
    refine ⟨h1, fun h => by omega, fun j => ?_, ?_⟩
    · by_cases hj : j < v.length
      · rw [h2 j hj, rd_zeros]; have := more_nonneg (m := v.length) (j := j) hN0; omega
      · rw [rd_out (by omega)]; omega
    · rw [h3]
      have : tot (List.replicate v.length 0) = 0 := by
        unfold tot; rw [sm_congr (g := fun _ => 0) (fun j _ => rd_zeros _ _), sm_const]; simp
      omega
  · have hT : 0 < tot v := by omega
    have := share_l0 hN0 hN1 hB hB1 hv hl hT v.length 0 (List.replicate v.length 0) (by omega) (by simp) (fun j hj => by omega)
    refine EvP.mono this (fun r hr => ⟨hr.1, fun _ => hr.2, fun j => ?_, ?_⟩)
    · by_cases hj : j < v.length
      · rw [hr.2 j hj]; exact shr_nonneg hN0 hv hT j
      · rw [rd_out (by omega)]; omega
    · unfold tot; rw [hr.1, sm_congr hr.2]; exact shr_tot hT
end shares
section widths
variable {n : Nat} (hn1 : 1 ≤ n) (hn8 : n ≤ 64) {l : List S80} {lo hi : List Int}
def tots (x : List Int) (n : Nat) : Int := sm (fun j => rd x (j : Int)) n
/-- What the widths are, case by case. -/
structure WidthsOk (n : Nat) (lo hi : List Int) (width : Int) (r : List Int × Int) : Prop where
  ok : r.2 = 0
  len : r.1.length = n
  most : width = 0 ∨ width = tot hi → ∀ j : Nat, rd r.1 (j : Int) = rd hi (j : Int)
  least : width ≠ 0 → width ≠ tot hi → width ≤ tot lo → ∀ j : Nat, rd r.1 (j : Int) = rd lo (j : Int)
  over : width ≠ 0 → tot lo < width → tot hi < width → ∃ s : List Int, s.length = n ∧ (∀ j : Nat, 0 ≤ rd s (j : Int)) ∧ tot s = width - tot hi ∧ ∀ j : Nat, rd r.1 (j : Int) = rd hi (j : Int) + rd s (j : Int)
  mid : width ≠ 0 → tot lo < width → width < tot hi → ∃ s ws : List Int, s.length = n ∧ ws.length = n ∧ (∀ j : Nat, rd ws (j : Int) = rd hi (j : Int) - rd lo (j : Int)) ∧ ShareOk (width - tot lo) ws s ∧ ∀ j : Nat, rd r.1 (j : Int) = rd lo (j : Int) + rd s (j : Int)
include hn8 in
theorem add_l0 {x s : List Int} (hx : x.length = n) (hs : s.length = n) (bx : In 31680 x) (bs : In 31680000 s) (d : Nat) : ∀ (i : Nat) (y : List Int), i + d = n → y.length = n → (∀ j : Nat, rd y (j : Int) = if j < i then rd x (j : Int) + rd s (j : Int) else rd x (j : Int)) →
    EvP (fun k => balance_Widths.l0 k y s (n : Int) (i : Int)) (fun r => r.2 = 0 ∧ r.1.length = n ∧ ∀ j : Nat, rd r.1 (j : Int) = rd x (j : Int) + rd s (j : Int)) := by
  induction d with
  | zero =>
    intro i y hi hy hj
    refine EvP.step (fun k => by simp only [balance_Widths.l0]; rfl) (EvP.neg (by omega) (EvP.ret ⟨rfl, hy, fun j => ?_⟩))
    simp only
    rw [hj j]
    split
    · rfl
    · rw [rd_out (l := s) (by omega)]; omega
  | succ d ih =>
    intro i y hi hy hj
    have b1 := bx i; have b2 := bs i
    refine EvP.step (fun k => by simp only [balance_Widths.l0]; rfl) (EvP.pos (by omega) (EvP.pos (by omega) (EvP.pos (by omega) (EvP.pos (by omega) ?_))))
    rw [Int.toNat_natCast, wc (n := n) (by omega) (by omega), hj i, if_neg (by omega), wz (n := rd x (i : Int) + rd s (i : Int)) (by omega) (by omega)]
    refine ih (i + 1) _ (by omega) (by rw [List.length_set]; exact hy) (fun j => ?_)
    rw [rd_set (by omega)]
    by_cases e : j = i
    · subst e; rw [if_pos rfl, if_pos (by omega)]
    · rw [if_neg e, hj j]
      by_cases e2 : j < i
      · rw [if_pos e2, if_pos (by omega)]
      · rw [if_neg e2, if_neg (by omega)]
include hn8 in
theorem add_l2 {x s : List Int} (hx : x.length = n) (hs : s.length = n) (bx : In 31680 x) (bs : In 31680000 s) (d : Nat) : ∀ (i : Nat) (y : List Int), i + d = n → y.length = n → (∀ j : Nat, rd y (j : Int) = if j < i then rd x (j : Int) + rd s (j : Int) else rd x (j : Int)) →
    EvP (fun k => balance_Widths.l2 k y s (n : Int) (i : Int)) (fun r => r.2 = 0 ∧ r.1.length = n ∧ ∀ j : Nat, rd r.1 (j : Int) = rd x (j : Int) + rd s (j : Int)) := by
  induction d with
  | zero =>
    intro i y hi hy hj
    refine EvP.step (fun k => by simp only [balance_Widths.l2]; rfl) (EvP.neg (by omega) (EvP.ret ⟨rfl, hy, fun j => ?_⟩))
    simp only
    rw [hj j]
    split
    · rfl
    · rw [rd_out (l := s) (by omega)]; omega
  | succ d ih =>
    intro i y hi hy hj
    have b1 := bx i; have b2 := bs i
    refine EvP.step (fun k => by simp only [balance_Widths.l2]; rfl) (EvP.pos (by omega) (EvP.pos (by omega) (EvP.pos (by omega) (EvP.pos (by omega) ?_))))
    rw [Int.toNat_natCast, wc (n := n) (by omega) (by omega), hj i, if_neg (by omega), wz (n := rd x (i : Int) + rd s (i : Int)) (by omega) (by omega)]
    refine ih (i + 1) _ (by omega) (by rw [List.length_set]; exact hy) (fun j => ?_)
    rw [rd_set (by omega)]
    by_cases e : j = i
    · subst e; rw [if_pos rfl, if_pos (by omega)]
    · rw [if_neg e, hj j]
      by_cases e2 : j < i
      · rw [if_pos e2, if_pos (by omega)]
      · rw [if_neg e2, if_neg (by omega)]
/-- A share's numbers are bounded by its sum. -/
theorem share_in {N : Int} {v s : List Int} (h : ShareOk N v s) (hN : N ≤ 31680) (hN0 : 0 ≤ N) : In 31680000 s := fun j => by
  refine ⟨h.pos j, ?_⟩
  by_cases hj : j < s.length
  · have := sm_one_le (f := fun j => rd s (j : Int)) (n := s.length) (i := j) (fun j _ => h.pos j) hj
    have e : sm (fun j => rd s (j : Int)) s.length = N := h.sum
    omega
  · rw [rd_out (by omega)]; omega
include hn1 hn8 in
theorem Widths_ok (hr : NeedsOk n l (lo, hi, 0)) (hN : Ev (fun k => balance_Needs.f k (n : Int) l) (lo, hi, 0)) {width : Int} (h0 : 0 ≤ width) (h1 : width ≤ 31680) :
    EvP (fun k => balance_Widths.f k (n : Int) l width) (WidthsOk n lo hi width) := by
  have llo : lo.length = n := hr.llo
  have lhi : hi.length = n := hr.lhi
  have ilo : In 31680 lo := hr.ilo
  have ihi : In 31680 hi := hr.ihi
  have hle : Ge lo hi := hr.le
  have blo := tot_bd (by omega) (by omega) ilo (by omega)
  have bhi := tot_bd (by omega) (by omega) ihi (by omega)
  have htt : tot lo ≤ tot hi := by unfold tot; rw [llo, lhi]; exact sm_le (fun j _ => hle j)
  unfold balance_Widths.f
  refine EvP.bind (EvP.ev hN) (fun t ht => ?_)
  subst ht
  refine EvP.pos rfl (EvP.neg (by omega) ?_)
  refine EvP.step (fun k => by simp only [balance_Widths.j0]; rfl) (EvP.neg (by simp; omega) ?_)
  refine EvP.bind (sum_ok (by omega) (by omega) ilo (by omega)) (fun a ha => EvP.bind (sum_ok (by omega) (by omega) ihi (by omega)) (fun b hb => ?_))
  subst ha; subst hb
  have most : width = 0 ∨ width = tot hi → WidthsOk n lo hi width (hi, 0) := fun h => ⟨rfl, lhi, fun _ _ => rfl, fun a b => by omega, fun a b c => by omega, fun a b c => by omega⟩
  have rest : width ≠ 0 → width ≠ tot hi → EvP (fun k => balance_Widths.j1 k (n : Int) width lo hi (tot lo) (tot hi) false) (WidthsOk n lo hi width) := fun z1 z2 => by
    refine EvP.step (fun k => by simp only [balance_Widths.j1]; rfl) (EvP.neg (by simp) ?_)
    refine EvP.ite (fun h => EvP.ret ⟨rfl, llo, fun a => by omega, fun _ _ _ _ => rfl, fun a b c => by omega, fun a b c => by omega⟩) (fun h => ?_)
    refine EvP.ite (fun h2 => ?_) (fun h2 => ?_)
    · rw [wz (n := width - tot hi) (by omega) (by omega)]
      refine EvP.bind (share_ok (N := width - tot hi) (by omega) (by omega) (by omega) (by omega) ihi (by omega) (by omega)) (fun s hs => ?_)
      have sl : s.length = n := by rw [hs.len, lhi]
      rw [sl]
      refine EvP.mono (add_l0 hn8 lhi sl ihi (share_in hs (by omega) (by omega)) n 0 hi (by omega) lhi (fun j => by rw [if_neg (by omega)])) (fun r hr => ⟨hr.1, hr.2.1, fun a => by omega, fun a b c => by omega, fun _ _ _ => ⟨s, sl, hs.pos, hs.sum, hr.2.2⟩, fun a b c => by omega⟩)
    · refine EvP.pos (by omega) (EvP.pos (by omega) ?_)
      refine EvP.bind (EvP.ret (P := (· = List.replicate n 0)) (by simp)) (fun y hy => ?_)
      subst hy
      have key : ∀ (d i : Nat) (x : List Int), i + d = n → x.length = n → (∀ j : Nat, rd x (j : Int) = if j < i then rd hi (j : Int) - rd lo (j : Int) else 0) →
          EvP (fun k => balance_Widths.l1 k width lo hi (tot lo) x (n : Int) (i : Int)) (WidthsOk n lo hi width) := by
        intro d
        induction d with
        | zero =>
          intro i x hi' hx hj
          have hxv : ∀ j : Nat, rd x (j : Int) = rd hi (j : Int) - rd lo (j : Int) := fun j => by
            rw [hj j]
            split
            · rfl
            · rw [rd_out (l := hi) (by omega), rd_out (l := lo) (by omega)]; omega
          have hxi : In 31680 x := fun j => by
            rw [hxv j]; have a := ilo j; have b := ihi j; have c := hle j; omega
          refine EvP.step (fun k => by simp only [balance_Widths.l1]; rfl) (EvP.neg (by omega) ?_)
          rw [wz (n := width - tot lo) (by omega) (by omega)]
          refine EvP.bind (share_ok (N := width - tot lo) (by omega) (by omega) (by omega) (by omega) hxi (by omega) (by omega)) (fun s hs => ?_)
          have sl : s.length = n := by rw [hs.len, hx]
          rw [sl]
          refine EvP.mono (add_l2 hn8 llo sl ilo (share_in hs (by omega) (by omega)) n 0 lo (by omega) llo (fun j => by rw [if_neg (by omega)])) (fun r hr => ⟨hr.1, hr.2.1, fun a => by omega, fun a b c => by omega, fun a b c => by omega, fun _ _ _ => ⟨s, x, sl, hx, hxv, hs, hr.2.2⟩⟩)
        | succ d ih =>
          intro i x hi' hx hj
          have a := ilo i; have b := ihi i
          refine EvP.step (fun k => by simp only [balance_Widths.l1]; rfl) (EvP.pos (by omega) (EvP.pos (by omega) (EvP.pos (by omega) (EvP.pos (by omega) (EvP.pos (by omega) ?_)))))
          rw [Int.toNat_natCast, wc (n := n) (by omega) (by omega), wz (n := rd hi (i : Int) - rd lo (i : Int)) (by omega) (by omega)]
          refine ih (i + 1) _ (by omega) (by rw [List.length_set]; exact hx) (fun j => ?_)
          rw [rd_set (by omega)]
          by_cases e : j = i
          · subst e; rw [if_pos rfl, if_pos (by omega)]
          · rw [if_neg e, hj j]
            by_cases e2 : j < i
            · rw [if_pos e2, if_pos (by omega)]
            · rw [if_neg e2, if_neg (by omega)]
      rw [List.length_replicate]
      exact key n 0 (List.replicate n 0) (by omega) (by simp) (fun j => by rw [rd_zeros, if_neg (by omega)])
  refine EvP.ite (fun h => ?_) (fun h => ?_)
  · refine EvP.step (fun k => by simp only [balance_Widths.j1]; rfl) (EvP.pos (by simp) (EvP.ret (most (.inl h))))
  · by_cases h2 : width = tot hi
    · rw [show (width == tot hi) = true by simpa using h2]
      refine EvP.step (fun k => by simp only [balance_Widths.j1]; rfl) (EvP.pos (by simp) (EvP.ret (most (.inr h2))))
    · rw [show (width == tot hi) = false by simpa using h2]
      exact rest h h2
/-- The sums of the widths. -/
theorem tot_add {x s r : List Int} (hx : x.length = n) (hs : s.length = n) (hr : r.length = n) (h : ∀ j : Nat, rd r (j : Int) = rd x (j : Int) + rd s (j : Int)) : tot r = tot x + tot s := by
  unfold tot; rw [hx, hs, hr, ← sm_add]; exact sm_congr (fun j _ => h j)
theorem tot_sub {x s r : List Int} (hx : x.length = n) (hs : s.length = n) (hr : r.length = n) (h : ∀ j : Nat, rd r (j : Int) = rd x (j : Int) - rd s (j : Int)) : tot r = tot x - tot s := by
  unfold tot; rw [hx, hs, hr, ← sm_sub]; exact sm_congr (fun j _ => h j)
theorem tot_eq {x r : List Int} (hx : x.length = n) (hr : r.length = n) (h : ∀ j : Nat, rd r (j : Int) = rd x (j : Int)) : tot r = tot x := by
  unfold tot; rw [hx, hr]; exact sm_congr (fun j _ => h j)
end widths
/-! the law's cells -/
section cells
variable {n : Nat} (hn1 : 1 ≤ n) (hn8 : n ≤ 8) {a : List S80} (hw : ∀ x ∈ a, W80 x)
include hn1 hn8 hw in
theorem cells_l0 (d : Nat) : ∀ (i : Nat) (x : List S80), i + d = 20 → x.length = i → (∀ c ∈ x, Cell n c) → EvP (fun k => ck_cells.l0 k (n : Int) a x (i : Int)) (fun r => r.length ≤ 20 ∧ ∀ c ∈ r, Cell n c) := by
  have fin : ∀ (i : Nat) (x : List S80), x.length = i → i ≤ 20 → (∀ c ∈ x, Cell n c) → EvP (fun k => ck_cells.j1 k (n : Int) a x (i : Int) false) (fun r => r.length ≤ 20 ∧ ∀ c ∈ r, Cell n c) := fun i x hx hi hc =>
    EvP.step (fun k => by simp only [ck_cells.j1]; rfl) (EvP.neg (by simp) (EvP.ret ⟨by omega, hc⟩))
  induction d with
  | zero =>
    intro i x hi hx hc
    refine EvP.step (fun k => by simp only [ck_cells.l0]; rfl) ?_
    refine EvP.ite (fun h => ?_) (fun h => fin i x hx (by omega) hc)
    rw [show decide ((i : Int) < 20) = false by simp; omega]
    exact fin i x hx (by omega) hc
  | succ d ih =>
    intro i x hi hx hc
    refine EvP.step (fun k => by simp only [ck_cells.l0]; rfl) ?_
    refine EvP.ite (fun h => ?_) (fun h => fin i x hx (by omega) hc)
    rw [show decide ((i : Int) < 20) = true by simp; omega]
    obtain ⟨w0, w1, w2, w3⟩ := hw _ (mem_rd (l := a) (i := i) (by omega))
    have b0 := bounds64 w0
    have b1 := bounds64 w1
    have b2 := bounds64 w2
    have b3 := bounds64 w3
    refine EvP.step (fun k => by simp only [ck_cells.j1]; rfl) (EvP.pos (by simp) (EvP.pos (by omega) (EvP.pos (by omega) ?_)))
    rw [wz (n := (n : Int) - 1) (by omega) (by omega)]
    refine EvP.bind (within_ev b0 (by omega) (by omega) (by omega) (by omega)) (fun c hc0 => ?_)
    rw [wz (n := (n : Int) - c) (by omega) (by omega)]
    refine EvP.bind (within_ev b1 (by omega) (by omega) (by omega) (by omega)) (fun s hs => ?_)
    refine EvP.bind (within_ev b2 (by omega) (by omega) (by omega) (by omega)) (fun m hm => ?_)
    refine EvP.bind (within_ev b3 (by omega) (by omega) (by omega) (by omega)) (fun p hp => EvP.pos (by omega) ?_)
    rw [wc (n := 20) (by omega) (by omega)]
    refine ih (i + 1) _ (by omega) (by simp [hx]) (fun y hy => ?_)
    rcases List.mem_append.1 hy with hy | hy
    · exact hc y hy
    · rw [List.mem_singleton.1 hy]
      exact ⟨⟨hc0.1, hs.1, by simp only; omega⟩, hm.1, by simp only; omega, hp.1, by simp only; omega⟩
include hn1 hn8 hw in
theorem cells_ok : EvP (fun k => ck_cells.f k (n : Int) a) (fun r => r.length ≤ 20 ∧ ∀ c ∈ r, Cell n c) := by
  unfold ck_cells.f
  exact cells_l0 hn1 hn8 hw 20 0 [] (by omega) rfl (fun c hc => by cases hc)
end cells
theorem first_widths : EvP (fun k => balance_Widths.f k 2 [] 5) (· = ([3, 2], 0)) := ⟨_, Ev.of (balance_Widths.mono _ _ _) (k := 40) (by kernel_rfl), rfl⟩
theorem first_equal : EvP (fun k => slices_Equal_int_int.f k [3, 2] [3, 2]) (· = true) := ⟨true, Ev.of (slices_Equal_int_int.mono _ _) (k := 9) (by kernel_rfl), rfl⟩

end Go.Proofs.Ytohaoaiffneamaa.Pure
