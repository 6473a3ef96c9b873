/- What ScaleContainsValues computes is true, at every four whole numbers: a scale contains its values with less than a step to spare at each end, and its marks are where the positions of its steps are. No condition beyond the kinds of the arguments. -/
import Derived.Test.YtohaoaiffneamaaPScaleContainsValuesx3
namespace Go.Proofs.Ytohaoaiffneamaa.Pure
open Go.RowKit Go.Proofs.Ytohaoaiffneamaa.PScaleContainsValues Go.Proofs.YtohaoaiffneamaaW.PrintWords Go.Proofs.YtohaoaiffneamaaW.PrintLast Go.Proofs.YtohaoaiffneamaaW.PrintMore

/-- From some number of rounds on the answer is there, and it is as told. -/
def EvP {α : Type} (g : Nat → Option α) (P : α → Prop) : Prop := ∃ r, Ev g r ∧ P r
theorem EvP.ret {α : Type} {r : α} {P : α → Prop} (h : P r) : EvP (fun _ => some r) P := ⟨r, Ev.now r, h⟩
theorem EvP.cst {α : Type} {g : Option α} {r : α} {P : α → Prop} (e : g = some r) (h : P r) : EvP (fun _ => g) P := ⟨r, ⟨0, fun _ _ => e⟩, h⟩
theorem EvP.bind {α β : Type} {g : Nat → Option α} {f : Nat → α → Option β} {P : α → Prop} {Q : β → Prop} (h : EvP g P) (k : ∀ a, P a → EvP (fun n => f n a) Q) : EvP (fun n => (g n).bind (f n)) Q := by
  obtain ⟨a, ha, hp⟩ := h
  obtain ⟨r, hr, hq⟩ := k a hp
  exact ⟨r, Ev.bind ha hr, hq⟩
theorem EvP.ite {α : Type} {c : Prop} [Decidable c] {a b : Nat → Option α} {Q : α → Prop} (h : c → EvP a Q) (k : ¬ c → EvP b Q) : EvP (fun n => if c then a n else b n) Q := by
  by_cases hc : c
  · simp only [if_pos hc]; exact h hc
  · simp only [if_neg hc]; exact k hc
theorem EvP.pos {α : Type} {c : Prop} [Decidable c] {a b : Nat → Option α} {Q : α → Prop} (hc : c) (h : EvP a Q) : EvP (fun n => if c then a n else b n) Q := by
  simp only [if_pos hc]; exact h
theorem EvP.neg {α : Type} {c : Prop} [Decidable c] {a b : Nat → Option α} {Q : α → Prop} (hc : ¬ c) (h : EvP b Q) : EvP (fun n => if c then a n else b n) Q := by
  simp only [if_neg hc]; exact h
theorem EvP.step {α : Type} {g f : Nat → Option α} {Q : α → Prop} (h : ∀ k, g (k + 1) = f k) (k : EvP f Q) : EvP g Q := by
  obtain ⟨r, hr, hq⟩ := k
  exact ⟨r, Ev.step h hr, hq⟩
theorem EvP.congr {α : Type} {g f : Nat → Option α} {Q : α → Prop} (h : ∀ k, g k = f k) (k : EvP f Q) : EvP g Q := by
  obtain ⟨r, hr, hq⟩ := k
  exact ⟨r, Ev.congr h hr, hq⟩
theorem EvP.mono {α : Type} {g : Nat → Option α} {P Q : α → Prop} (h : EvP g P) (k : ∀ r, P r → Q r) : EvP g Q := by
  obtain ⟨r, hr, hp⟩ := h
  exact ⟨r, hr, k r hp⟩
theorem EvP.rounds {α : Type} {g : Nat → Option α} {r : α} (h : EvP g (· = r)) : ∃ k, g k = some r := by
  obtain ⟨q, hq, rfl⟩ := h
  exact hq.rounds
theorem EvP.ev {α : Type} {g : Nat → Option α} {r : α} (h : Ev g r) : EvP g (· = r) := ⟨r, h, rfl⟩
/-- What has no rounds, told as what has some. -/
theorem EvP.plain {α : Type} {g : Option α} {P : α → Prop} (h : EvP (fun _ => g) P) : ∃ r, g = some r ∧ P r := by
  obtain ⟨r, ⟨K, hK⟩, hp⟩ := h
  exact ⟨r, hK K (Nat.le_refl _), hp⟩
theorem wz {n : Int} (h : -9223372036854775808 ≤ n) (k : n ≤ 9223372036854775807) : wrap64 n = n := by
  unfold wrap64; omega
theorem bounds64 {n : Int} (h : (Lit.int .i64 n).wf = true) : -9223372036854775808 ≤ n ∧ n ≤ 9223372036854775807 := by
  simp [Lit.wf, IntKind.min, IntKind.max, IntKind.signed, IntKind.bits] at h
  omega

theorem div_bd {a S : Int} {M : Int} (hS : 1 ≤ S) (h0 : 0 ≤ M) (h1 : -M ≤ a) (h2 : a ≤ M) : -M ≤ a / S ∧ a / S ≤ M := by
  constructor
  · refine Int.le_ediv_of_mul_le (by omega) ?_
    have := Int.mul_le_mul_of_nonneg_left hS h0
    have e : (-M) * S = -(M * S) := Int.neg_mul _ _
    omega
  · refine Int.ediv_le_of_le_mul (by omega) ?_
    have := Int.mul_le_mul_of_nonneg_left hS h0
    omega
theorem div_lo {a S : Int} (hS : 1 ≤ S) : a / S * S ≤ a ∧ a < a / S * S + S := by
  have h := Int.mul_ediv_add_emod a S
  have h1 := Int.emod_nonneg a (show S ≠ 0 by omega)
  have h2 := Int.emod_lt_of_pos a (show 0 < S by omega)
  rw [Int.mul_comm] at h
  omega
theorem floor_ok {a b : Int} (hb : 1 ≤ b) (h1 : -9223372036854775807 ≤ a) (h2 : a ≤ 9223372036854775807) : scale_floor.f a b = some (a / b) := by
  unfold scale_floor.f
  rw [if_neg (by omega)]
  have hq := div_bd (M := 9223372036854775807) hb (by omega) h1 h2
  by_cases h0 : 0 ≤ a
  · have e1 : Int.tdiv a b = a / b := Int.tdiv_eq_ediv_of_nonneg h0
    have e2 : Int.tmod a b = a % b := Int.tmod_eq_emod_of_nonneg h0
    have := Int.emod_nonneg a (show b ≠ 0 by omega)
    rw [if_neg (by omega), e1, wz (by omega) (by omega)]
  · obtain ⟨m, rfl⟩ : ∃ m, a = -m := ⟨-a, by omega⟩
    have e1 : Int.tdiv (-m) b = -(m / b) := by rw [Int.neg_tdiv, Int.tdiv_eq_ediv_of_nonneg (by omega)]
    have e2 : Int.tmod (-m) b = -(m % b) := by rw [Int.neg_tmod, Int.tmod_eq_emod_of_nonneg (by omega)]
    have hm := div_bd (M := 9223372036854775807) (a := m) hb (by omega) (by omega) (by omega)
    have d1 := Int.mul_ediv_add_emod m b
    have d2 := Int.emod_nonneg m (show b ≠ 0 by omega)
    have d3 := Int.emod_lt_of_pos m (show 0 < b by omega)
    rw [e1, e2, wz (n := -(m / b)) (by omega) (by omega)]
    by_cases hz : m % b = 0
    · rw [if_neg (by omega)]
      congr 1
      symm
      refine Int.ediv_eq_of_eq_mul_left (by omega) ?_
      rw [Int.neg_mul, Int.mul_comm]; omega
    · rw [if_pos (by omega)]
      have hq' : -m / b = -(m / b) - 1 := by
        have l := div_lo (a := -m) hb
        have e : (-(m / b) - 1) * b = -(b * (m / b)) - b := by rw [Int.sub_mul, Int.neg_mul, Int.mul_comm, Int.one_mul]
        generalize hX : -m / b = X at l
        generalize hY : -(m / b) - 1 = Y at e
        by_cases hlt : X < Y
        · have := Int.mul_le_mul_of_nonneg_right (show X + 1 ≤ Y by omega) (show 0 ≤ b by omega)
          rw [Int.add_mul, Int.one_mul] at this; omega
        · by_cases hgt : Y < X
          · have := Int.mul_le_mul_of_nonneg_right (show Y + 1 ≤ X by omega) (show 0 ≤ b by omega)
            rw [Int.add_mul, Int.one_mul] at this; omega
          · omega
      rw [hq', wz (n := -(m / b) - 1) (by omega) (by omega)]
theorem floor_ev {a b : Int} (hb : 1 ≤ b) (h1 : -9223372036854775807 ≤ a) (h2 : a ≤ 9223372036854775807) : EvP (fun _ => scale_floor.f a b) (· = a / b) := EvP.cst (floor_ok hb h1 h2) rfl

/-- A scale as Find tells it. -/
structure Good (low high steps : Int) (r : Int × Int × Int × Int) : Prop where
  ok : r.2.2.2 = 0
  parts : ∃ a b : Int, r.1 = a * r.2.2.1 ∧ r.2.1 = b * r.2.2.1 ∧ a < b ∧ b - a ≤ steps
  size : 1 ≤ r.2.2.1 ∧ r.2.2.1 ≤ 1000000000000
  lo : r.1 ≤ low ∧ low < r.1 + r.2.2.1
  hi : high ≤ r.2.1 ∧ r.2.1 ≤ high + r.2.2.1

section
variable {low high steps p S i : Int} (hl : -1000000000000 ≤ low) (hlh : low ≤ high) (hh : high ≤ 1000000000000) (hs : 2 ≤ steps)
include hl hlh hh hs
theorem round (hi0 : 0 ≤ i) (hi1 : i < 3) (hp : rd ([1, 2, 5] : List Int) i * p = S) (hS : 1 ≤ S) (hS' : S ≤ 1000000000000)
    (cont : 2 < -(-high / S) - low / S → EvP (fun k => scale_Find.l1 k low high steps p ([1, 2, 5] : List Int) 3 (i + 1)) (Good low high steps)) :
    EvP (fun k => scale_Find.l1 k low high steps p ([1, 2, 5] : List Int) 3 i) (Good low high steps) := by
  have e1 : wrap64 (rd ([1, 2, 5] : List Int) i * p) = S := by rw [hp]; exact wz (by omega) (by omega)
  refine EvP.step (fun k => by simp only [scale_Find.l1]; rfl) ?_
  refine EvP.pos hi1 (EvP.pos hi0 (EvP.pos (by simpa using hi1) ?_))
  rw [e1, wz (n := -high) (by omega) (by omega), wz (n := i + 1) (by omega) (by omega)]
  have ql := div_lo (a := low) hS
  have qh := div_lo (a := -high) hS
  have bl := div_bd (M := 1000000000000) (a := low) hS (by omega) (by omega) (by omega)
  have bh := div_bd (M := 1000000000000) (a := -high) hS (by omega) (by omega) (by omega)
  refine EvP.bind (floor_ev hS (by omega) (by omega)) (fun t1 h1 => ?_)
  refine EvP.bind (floor_ev hS (by omega) (by omega)) (fun t2 h2 => ?_)
  subst h1; subst h2
  generalize low / S = A at *
  generalize -high / S = B at *
  rw [wz (n := -B) (by omega) (by omega)]
  have eB : -B * S = -(B * S) := Int.neg_mul _ _
  have le : A ≤ -B := by
    by_cases h : A ≤ -B
    · exact h
    · have := Int.mul_le_mul_of_nonneg_right (show -B + 1 ≤ A by omega) (show 0 ≤ S by omega)
      rw [Int.add_mul, Int.one_mul] at this; omega
  refine EvP.ite (fun hab => ?_) (fun hab => ?_)
  · rw [wz (n := -B + 1) (by omega) (by omega), wz (n := -B + 1 - A) (by omega) (by omega)]
    refine EvP.pos (by omega) (EvP.ret ?_)
    have eB1 : (-B + 1) * S = -(B * S) + S := by rw [Int.add_mul, Int.one_mul, eB]
    have eA : A * S = -(B * S) := by rw [hab, eB]
    rw [wz (n := A * S) (by omega) (by omega), wz (n := (-B + 1) * S) (by omega) (by omega)]
    exact ⟨rfl, ⟨A, -B + 1, rfl, rfl, by omega, by omega⟩, ⟨hS, hS'⟩, ⟨ql.1, ql.2⟩, ⟨by simp only; omega, by simp only; omega⟩⟩
  · rw [wz (n := -B - A) (by omega) (by omega)]
    refine EvP.ite (fun hc => EvP.ret ?_) (fun hc => cont (by omega))
    rw [wz (n := A * S) (by omega) (by omega), wz (n := -B * S) (by omega) (by omega)]
    exact ⟨rfl, ⟨A, -B, rfl, rfl, by omega, hc⟩, ⟨hS, hS'⟩, ⟨ql.1, ql.2⟩, ⟨by simp only; omega, by simp only; omega⟩⟩
theorem find_l0 (d : Nat) : ∀ e : Nat, e + d = 12 → EvP (fun k => scale_Find.l0 k low high steps ((10 : Int) ^ e)) (Good low high steps) := by
  induction d with
  | zero =>
    intro e he
    obtain rfl : e = 12 := by omega
    refine EvP.step (fun k => by simp only [scale_Find.l0]; rfl) ?_
    refine EvP.bind (EvP.ret (P := (· = [1, 2, 5])) rfl) (fun y hy => ?_)
    subst hy
    refine round hl hlh hh hs (S := 1000000000000) (by omega) (by omega) (by decide) (by omega) (by omega) (fun h => ?_)
    exfalso
    have ql := div_lo (a := low) (S := 1000000000000) (by omega)
    have qh := div_lo (a := -high) (S := 1000000000000) (by omega)
    omega
  | succ d ih =>
    intro e he
    have hp : (1 : Int) ≤ 10 ^ e ∧ (10 : Int) ^ e ≤ 100000000000 := by
      have h1 : (10 : Nat) ^ e ≤ 10 ^ 11 := Nat.pow_le_pow_right (by omega) (by omega)
      have h0 : 0 < (10 : Nat) ^ e := Nat.pow_pos (by omega)
      have : ((10 : Nat) ^ e : Int) = (10 : Int) ^ e := by push_cast; rfl
      omega
    have hn : (10 : Int) ^ e * 10 = 10 ^ (e + 1) := (Int.pow_succ 10 e).symm
    refine EvP.step (fun k => by simp only [scale_Find.l0]; rfl) ?_
    refine EvP.bind (EvP.ret (P := (· = [1, 2, 5])) rfl) (fun y hy => ?_)
    subst hy
    generalize (10 : Int) ^ e = p at *
    refine round hl hlh hh hs (S := p) (by omega) (by omega) (by simp [rd]) (by omega) (by omega) (fun _ => ?_)
    refine round hl hlh hh hs (S := 2 * p) (by omega) (by omega) (by simp [rd]) (by omega) (by omega) (fun _ => ?_)
    refine round hl hlh hh hs (S := 5 * p) (by omega) (by omega) (by simp [rd]) (by omega) (by omega) (fun _ => ?_)
    refine EvP.step (fun k => by simp only [scale_Find.l1]; rfl) ?_
    refine EvP.neg (by omega) ?_
    rw [wz (n := p * 10) (by omega) (by omega), hn]
    exact ih (e + 1) (by omega)
theorem find_ok (hs' : steps ≤ 50) : EvP (fun k => scale_Find.f k low high steps) (Good low high steps) := by
  unfold scale_Find.f
  refine EvP.neg (by omega) (EvP.neg (by omega) (EvP.neg (by omega) (EvP.neg (by omega) (EvP.neg (by omega) ?_))))
  refine EvP.step (fun k => by simp only [scale_Find.j0]; rfl) ?_
  refine EvP.neg (by simp; omega) (EvP.neg (by omega) ?_)
  exact find_l0 hl hlh hh hs 12 0 rfl
end

section
variable {a b S : Int} (hS : 1 ≤ S) (hS' : S ≤ 4000000000000) (hab : a < b) (hm : b - a ≤ 500) (hA : -4000000000000 ≤ a * S) (hB : b * S ≤ 4000000000000)
include hS hS' hab hm hA hB
omit hm in
theorem mul_facts : a * S < b * S ∧ b * S - a * S = (b - a) * S ∧ a * S ≤ 4000000000000 ∧ -4000000000000 ≤ b * S := by
  have h := Int.mul_lt_mul_of_pos_right hab (show 0 < S by omega)
  have h2 : (b - a) * S = b * S - a * S := Int.sub_mul b a S
  omega
theorem check_ok : EvP (fun k => scale_Check.f k (a * S) (b * S) S) (· = 0) := by
  have hf := mul_facts hS hS' hab hA hB
  unfold scale_Check.f
  refine EvP.neg (by omega) (EvP.neg (by omega) (EvP.neg (by omega) (EvP.neg (by omega) (EvP.neg (by omega) ?_))))
  refine EvP.step (fun k => by simp only [scale_Check.j0]; rfl) ?_
  refine EvP.neg (by simp; omega) (EvP.neg (by omega) (EvP.neg (by omega) ?_))
  have e1 : wrap64 (b * S - a * S) = (b - a) * S := by rw [wz (by omega) (by omega), hf.2.1]
  rw [e1]
  refine EvP.pos (Int.mul_tmod_left _ _) ?_
  refine EvP.bind (floor_ev hS (by omega) (by omega)) (fun t ht => ?_)
  subst ht
  rw [Int.mul_ediv_cancel a (show S ≠ 0 by omega), wz (n := a * S) (by omega) (by omega)]
  refine EvP.step (fun k => by simp only [scale_Check.j1]; rfl) ?_
  refine EvP.neg (by simp) (EvP.neg (by omega) ?_)
  rw [e1, Int.mul_tdiv_cancel _ (show S ≠ 0 by omega), wz (n := b - a) (by omega) (by omega)]
  exact EvP.neg (by omega) (EvP.ret rfl)
def marks (A S : Int) (n : Nat) : List Int := (List.range n).map fun i : Nat => A + i * S
omit hS hS' hab hm hA hB in
theorem marks_succ (A S : Int) (n : Nat) : marks A S (n + 1) = marks A S n ++ [A + n * S] := by
  simp [marks, List.range_succ]
omit hS hS' hab hm hA hB in
theorem marks_len (A S : Int) (n : Nat) : (marks A S n).length = n := by simp [marks]
omit hS hS' hab hm hA hB in
theorem marks_rd (A S : Int) (n : Nat) (i : Int) (h0 : 0 ≤ i) (h1 : i < n) : rd (marks A S n) i = A + i * S := by
  have e : (i.toNat : Int) = i := Int.toNat_of_nonneg h0
  have hlt : i.toNat < n := by omega
  simp [rd, marks, hlt, e]
theorem marks_loop (d : Nat) : ∀ j : Nat, (j : Int) + d = b - a + 1 →
    EvP (fun k => scale_Marks.l0 k (marks (a * S) S j) (a * S + j * S) (a * S) (b * S) S) (fun r => r.2 = 0 ∧ r.1 = marks (a * S) S (b - a + 1).toNat) := by
  have hf := mul_facts hS hS' hab hA hB
  induction d with
  | zero =>
    intro j hj
    refine EvP.step (fun k => by simp only [scale_Marks.l0]; rfl) ?_
    have : (j : Int) * S = (b - a) * S + S := by rw [show (j : Int) = b - a + 1 by omega, Int.add_mul, Int.one_mul]
    refine EvP.neg (by omega) (EvP.ret ⟨rfl, ?_⟩)
    rw [show (b - a + 1).toNat = j by omega]
  | succ d ih =>
    intro j hj
    refine EvP.step (fun k => by simp only [scale_Marks.l0]; rfl) ?_
    have hle := Int.mul_le_mul_of_nonneg_right (show (j : Int) ≤ b - a by omega) (show 0 ≤ S by omega)
    have hge := Int.mul_nonneg (show (0 : Int) ≤ j by omega) (show 0 ≤ S by omega)
    have hsz : (marks (a * S) S j).length < 17592186044416 := by rw [marks_len]; omega
    refine EvP.pos (by omega) (EvP.pos hsz ?_)
    rw [wz (by omega) (by omega), ← marks_succ]
    have e : a * S + j * S + S = a * S + ((j + 1 : Nat) : Int) * S := by
      rw [show ((j + 1 : Nat) : Int) = (j : Int) + 1 by omega, Int.add_mul, Int.one_mul]; omega
    rw [e]
    exact ih (j + 1) (by omega)
theorem marks_ok : EvP (fun k => scale_Marks.f k (a * S) (b * S) S) (fun r => r.2 = 0 ∧ r.1 = marks (a * S) S (b - a + 1).toNat) := by
  unfold scale_Marks.f
  refine EvP.bind (check_ok hS hS' hab hm hA hB) (fun t ht => ?_)
  subst ht
  refine EvP.pos rfl ?_
  have h := marks_loop hS hS' hab hm hA hB (b - a + 1).toNat 0 (by omega)
  simpa [marks] using h
/-- The place of mark i. -/
def place (S m long i : Int) : Int := (2 * (i * S) * long + m * S) / (2 * (m * S))
theorem place_ok {i long : Int} (h0 : 0 ≤ i) (h1 : i ≤ b - a) (hl0 : 0 ≤ long) (hl1 : long ≤ 100000) :
    EvP (fun k => scale_Place.f k (a * S) (b * S) S (a * S + i * S) long) (fun r => r.2 = 0 ∧ r.1 = place S (b - a) long i) := by
  have hf := mul_facts hS hS' hab hA hB
  have hle := Int.mul_le_mul_of_nonneg_right h1 (show 0 ≤ S by omega)
  have hge := Int.mul_nonneg h0 (show 0 ≤ S by omega)
  have hle1 := Int.mul_le_mul_of_nonneg_right (show 1 ≤ b - a by omega) (show 0 ≤ S by omega)
  unfold scale_Place.f
  refine EvP.bind (check_ok hS hS' hab hm hA hB) (fun t ht => ?_)
  subst ht
  refine EvP.pos rfl (EvP.neg (by omega) (EvP.neg (by omega) (EvP.neg (by omega) (EvP.neg (by omega) ?_))))
  have hX : 0 ≤ i * S ∧ i * S ≤ 8000000000000 := by omega
  have e0 : a * S + i * S - a * S = i * S := by omega
  have p1 := Int.mul_le_mul_of_nonneg_left hl1 (show 0 ≤ 2 * (i * S) by omega)
  have p0 := Int.mul_nonneg (show 0 ≤ 2 * (i * S) by omega) hl0
  rw [e0, hf.2.1]
  have hM : 1 ≤ (b - a) * S ∧ (b - a) * S ≤ 8000000000000 := by omega
  rw [wz (n := i * S) (by omega) (by omega), wz (n := (b - a) * S) (by omega) (by omega), wz (n := 2 * (i * S)) (by omega) (by omega), wz (n := 2 * (i * S) * long) (by omega) (by omega), wz (n := 2 * (i * S) * long + (b - a) * S) (by omega) (by omega), wz (n := 2 * ((b - a) * S)) (by omega) (by omega)]
  refine EvP.bind (floor_ev (by omega) (by omega) (by omega)) (fun t ht => EvP.ret ⟨rfl, ht⟩)
end
theorem place_zero {S m long : Int} (hm : 1 ≤ m * S) : place S m long 0 = 0 := by
  unfold place
  rw [Int.zero_mul, Int.mul_zero, Int.zero_mul, Int.zero_add]
  exact Int.ediv_eq_zero_of_lt (by omega) (by omega)
theorem place_end {S m long : Int} (hm : 1 ≤ m * S) : place S m long m = long := by
  unfold place
  rw [Int.add_comm, Int.add_mul_ediv_left _ _ (by omega), Int.ediv_eq_zero_of_lt (by omega) (by omega)]
  omega
theorem place_le {S m long i : Int} (hS : 1 ≤ S) (hm : 1 ≤ m * S) (hl : 0 ≤ long) : place S m long i ≤ place S m long (i + 1) := by
  unfold place
  refine Int.ediv_le_ediv (by omega) ?_
  have e : (i + 1) * S = i * S + S := by rw [Int.add_mul, Int.one_mul]
  have := Int.mul_le_mul_of_nonneg_right (show 2 * (i * S) ≤ 2 * ((i + 1) * S) by omega) hl
  omega
theorem within_ok {x lo hi : Int} (hx : -9223372036854775808 ≤ x ∧ x ≤ 9223372036854775807) (h : lo ≤ hi) (hlo : -4611686018427387904 ≤ lo) (hhi : hi ≤ 4611686018427387904) (hd : hi - lo < 2305843009213693952) :
    ∃ r, chancerykeep3_within.f x lo hi = some r ∧ lo ≤ r ∧ r ≤ hi := by
  unfold chancerykeep3_within.f
  rw [wz (n := hi - lo) (by omega) (by omega), wz (n := hi - lo + 1) (by omega) (by omega)]
  obtain ⟨n, hn⟩ : ∃ n, n = hi - lo + 1 := ⟨_, rfl⟩
  rw [← hn, if_neg (by omega)]
  have t1 : -n < Int.tmod x n ∧ Int.tmod x n < n := by
    constructor
    · by_cases h0 : 0 ≤ x
      · have := Int.tmod_nonneg n h0; omega
      · obtain ⟨m, rfl⟩ : ∃ m, x = -m := ⟨-x, by omega⟩
        rw [Int.neg_tmod]
        have := Int.tmod_lt_of_pos m (show 0 < n by omega)
        omega
    · exact Int.tmod_lt_of_pos x (by omega)
  rw [wz (n := Int.tmod x n + n) (by omega) (by omega)]
  have t2 := Int.tmod_nonneg n (show 0 ≤ Int.tmod x n + n by omega)
  have t3 := Int.tmod_lt_of_pos (Int.tmod x n + n) (show 0 < n by omega)
  refine ⟨_, rfl, ?_, ?_⟩
  · rw [wz (by omega) (by omega)]; omega
  · rw [wz (by omega) (by omega)]; omega
theorem within_ev {x lo hi : Int} (hx : -9223372036854775808 ≤ x ∧ x ≤ 9223372036854775807) (h : lo ≤ hi) (hlo : -4611686018427387904 ≤ lo) (hhi : hi ≤ 4611686018427387904) (hd : hi - lo < 2305843009213693952) :
    EvP (fun _ => chancerykeep3_within.f x lo hi) (fun r => lo ≤ r ∧ r ≤ hi) := by
  obtain ⟨r, e, h⟩ := within_ok hx h hlo hhi hd
  exact EvP.cst e h
section
variable {a b S long : Int} (hS : 1 ≤ S) (hS' : S ≤ 4000000000000) (hab : a < b) (hm : b - a ≤ 500) (hA : -4000000000000 ≤ a * S) (hB : b * S ≤ 4000000000000) (hl0 : 0 ≤ long) (hl1 : long ≤ 100000)
include hS hS' hab hm hA hB hl0 hl1
theorem law_loop (d : Nat) : ∀ (i last : Int), 0 ≤ i → i + d = b - a + 1 → (last ≤ place S (b - a) long i) →
    EvP (fun k => chancerykeep3_ScaleContainsValues.l0 k long (marks (a * S) S (b - a + 1).toNat) last (marks (a * S) S (b - a + 1).toNat) ((marks (a * S) S (b - a + 1).toNat).length : Int) i (a * S) (b * S) S) (· = true) := by
  have hmS : 1 ≤ (b - a) * S := by
    have := Int.mul_le_mul_of_nonneg_right (show 1 ≤ b - a by omega) (show 0 ≤ S by omega)
    omega
  have hlen : ((marks (a * S) S (b - a + 1).toNat).length : Int) = b - a + 1 := by rw [marks_len]; omega
  induction d with
  | zero =>
    intro i last h0 h1 h2
    refine EvP.step (fun k => by simp only [chancerykeep3_ScaleContainsValues.l0]; rfl) ?_
    rw [hlen]
    exact EvP.neg (by omega) (EvP.ret rfl)
  | succ d ih =>
    intro i last h0 h1 h2
    have hnext : b - a + 1 ≤ i + 1 ∨ place S (b - a) long i ≤ place S (b - a) long (i + 1) := .inr (place_le hS hmS hl0)
    have go : ∀ x, x = place S (b - a) long i → EvP (fun k => chancerykeep3_ScaleContainsValues.l0 k long (marks (a * S) S (b - a + 1).toNat) x (marks (a * S) S (b - a + 1).toNat) ((marks (a * S) S (b - a + 1).toNat).length : Int) (i + 1) (a * S) (b * S) S) (· = true) :=
      fun x hx => ih (i + 1) x (by omega) (by omega) (by rw [hx]; exact place_le hS hmS hl0)
    rw [hlen] at go
    refine EvP.step (fun k => by simp only [chancerykeep3_ScaleContainsValues.l0]; rfl) ?_
    rw [hlen]
    refine EvP.pos (by omega) (EvP.pos h0 (EvP.pos (by omega) ?_))
    rw [marks_rd _ _ _ _ h0 (by omega), wz (n := i + 1) (by omega) (by omega), wz (n := b - a + 1 - 1) (by omega) (by omega)]
    refine EvP.bind (place_ok hS hS' hab hm hA hB h0 (by omega) hl0 hl1) (fun t ht => ?_)
    refine EvP.pos ht.1 (EvP.neg (by omega) ?_)
    have hend : i = b - a + 1 - 1 → t.1 = long := fun h => by rw [ht.2, show i = b - a by omega]; exact place_end hmS
    refine EvP.ite (fun hi => ?_) (fun hi => ?_)
    · refine EvP.pos (by rw [ht.2, hi]; exact place_zero hmS) ?_
      refine EvP.ite (fun he => ?_) (fun he => ?_)
      · exact EvP.pos (hend he) (go _ ht.2)
      · exact go _ ht.2
    · refine EvP.ite (fun he => ?_) (fun he => ?_)
      · exact EvP.pos (hend he) (go _ ht.2)
      · exact go _ ht.2
end
theorem first_marks : EvP (fun k => scale_Marks.f k 0 4 2) (fun r => r.2 = 0 ∧ r.1 = [0, 2, 4]) :=
  marks_ok (a := 0) (b := 2) (S := 2) (by omega) (by omega) (by omega) (by omega) (by omega) (by omega)
theorem first_equal : EvP (fun k => slices_Equal_int_int.f k [0, 2, 4] [0, 2, 4]) (· = true) := ⟨true, Ev.of (slices_Equal_int_int.mono _ _) (k := 9) (by kernel_rfl), rfl⟩

theorem ScaleContainsValues : chancerykeep3_ScaleContainsValues.Pure := by
  intro a0 a1 a2 a3 w0 w1 w2 w3
  have b0 := bounds64 w0
  have b1 := bounds64 w1
  have b2 := bounds64 w2
  have b3 := bounds64 w3
  clear w0 w1 w2 w3
  refine EvP.rounds (g := fun k => chancerykeep3_ScaleContainsValues.f k a0 a1 a2 a3) ?_
  unfold chancerykeep3_ScaleContainsValues.f
  refine EvP.bind first_marks (fun r hr => EvP.pos hr.1 ?_)
  rw [hr.2]
  refine EvP.bind first_equal (fun t ht => ?_)
  subst ht
  refine EvP.step (fun k => by simp only [chancerykeep3_ScaleContainsValues.j0]; rfl) ?_
  refine EvP.neg (by simp) ?_
  refine EvP.bind (within_ev b0 (by omega) (by omega) (by omega) (by omega)) (fun x hx => ?_)
  refine EvP.bind (within_ev b1 (by omega) (by omega) (by omega) (by omega)) (fun y hy => ?_)
  refine EvP.bind (within_ev b2 (by omega) (by omega) (by omega) (by omega)) (fun steps hs => ?_)
  refine EvP.bind (within_ev b3 (by omega) (by omega) (by omega) (by omega)) (fun long hl => ?_)
  have hmn : mn x y ≤ mx x y ∧ -1000000000000 ≤ mn x y ∧ mx x y ≤ 1000000000000 := by unfold mn mx; omega
  generalize mn x y = low at *
  generalize mx x y = high at *
  refine EvP.bind (find_ok hmn.2.1 hmn.1 hmn.2.2 hs.1 hs.2) (fun r hr => ?_)
  obtain ⟨A, B, S, e⟩ := r
  obtain ⟨ok, ⟨a, b, ha, hb, hab, hst⟩, hsz, hlo, hhi⟩ := hr
  simp only at ok ha hb hsz hlo hhi hst
  subst ok ha hb
  refine EvP.pos rfl ?_
  have hm : b - a ≤ 500 := by omega
  have hA : -4000000000000 ≤ a * S := by omega
  have hB : b * S ≤ 4000000000000 := by omega
  have hS' : S ≤ 4000000000000 := by omega
  have hf := mul_facts hsz.1 hS' hab hA hB
  refine EvP.bind (check_ok hsz.1 hS' hab hm hA hB) (fun t ht => EvP.pos ht ?_)
  simp only
  rw [wz (n := low - S) (by omega) (by omega), wz (n := high + S) (by omega) (by omega), wz (n := b * S - a * S) (by omega) (by omega), hf.2.1, Int.mul_tdiv_cancel _ (show S ≠ 0 by omega), wz (n := b - a) (by omega) (by omega)]
  refine EvP.neg (by omega) (EvP.neg (by omega) (EvP.neg (by omega) (EvP.neg (by omega) (EvP.neg (by omega) ?_))))
  refine EvP.step (fun k => by simp only [chancerykeep3_ScaleContainsValues.j1]; rfl) ?_
  refine EvP.neg (by simp; omega) ?_
  refine EvP.bind (marks_ok hsz.1 hS' hab hm hA hB) (fun r hr => EvP.pos hr.1 (EvP.neg (by omega) ?_))
  rw [hr.2, wz (n := b * S - a * S) (by omega) (by omega), hf.2.1, Int.mul_tdiv_cancel _ (show S ≠ 0 by omega), wz (n := b - a) (by omega) (by omega), wz (n := b - a + 1) (by omega) (by omega)]
  refine EvP.step (fun k => by simp only [chancerykeep3_ScaleContainsValues.j2]; rfl) ?_
  refine EvP.neg (by simp [marks_len]; omega) ?_
  refine law_loop hsz.1 hS' hab hm hA hB hl.1 hl.2 (b - a + 1).toNat 0 0 (by omega) (by omega) ?_
  rw [place_zero (by have := Int.mul_le_mul_of_nonneg_right (show 1 ≤ b - a by omega) (show 0 ≤ S by omega); omega)]
  omega

end Go.Proofs.Ytohaoaiffneamaa.Pure
