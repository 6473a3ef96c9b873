/- What MetricHeights computes is true, at every look: a text is as high as its size, four fifths of it above the base line. No condition beyond the kinds of the arguments. -/
import Derived.Test.YtohaoaiffneamaaTypMetricHeights
namespace Go.Proofs.Ytohaoaiffneamaa.Pure
open Go.RowKit Go.Proofs.Ytohaoaiffneamaa.QMetricHeights Go.Proofs.YtohaoaiffneamaaW.PrintWords Go.Proofs.YtohaoaiffneamaaW.PrintLast Go.Proofs.YtohaoaiffneamaaW.PrintMore

/-- From some number of rounds on the answer is there, and it is as told. -/
def EvP {α : Type} (g : Nat → Option α) (P : α → Prop) : Prop := ∃ r, Ev g r ∧ P r
theorem EvP.ret {α : Type} {r : α} {P : α → Prop} (h : P r) : EvP (fun _ => some r) P := ⟨r, Ev.now r, h⟩
theorem EvP.cst {α : Type} {g : Option α} {r : α} {P : α → Prop} (e : g = some r) (h : P r) : EvP (fun _ => g) P := ⟨r, ⟨0, fun _ _ => e⟩, h⟩
theorem EvP.bind {α β : Type} {g : Nat → Option α} {f : Nat → α → Option β} {P : α → Prop} {Q : β → Prop} (h : EvP g P) (k : ∀ a, P a → EvP (fun n => f n a) Q) : EvP (fun n => (g n).bind (f n)) Q := by
  obtain ⟨a, ha, hp⟩ := h
  obtain ⟨r, hr, hq⟩ := k a hp
  exact ⟨r, Ev.bind ha hr, hq⟩
theorem EvP.ite {α : Type} {c : Prop} [Decidable c] {a b : Nat → Option α} {Q : α → Prop} (h : c → EvP a Q) (k : ¬ c → EvP b Q) : EvP (fun n => if c then a n else b n) Q := by
  by_cases hc : c
  · simp only [if_pos hc]; exact h hc
  · simp only [if_neg hc]; exact k hc
theorem EvP.pos {α : Type} {c : Prop} [Decidable c] {a b : Nat → Option α} {Q : α → Prop} (hc : c) (h : EvP a Q) : EvP (fun n => if c then a n else b n) Q := by
  simp only [if_pos hc]; exact h
theorem EvP.neg {α : Type} {c : Prop} [Decidable c] {a b : Nat → Option α} {Q : α → Prop} (hc : ¬ c) (h : EvP b Q) : EvP (fun n => if c then a n else b n) Q := by
  simp only [if_neg hc]; exact h
theorem EvP.step {α : Type} {g f : Nat → Option α} {Q : α → Prop} (h : ∀ k, g (k + 1) = f k) (k : EvP f Q) : EvP g Q := by
  obtain ⟨r, hr, hq⟩ := k
  exact ⟨r, Ev.step h hr, hq⟩
theorem EvP.congr {α : Type} {g f : Nat → Option α} {Q : α → Prop} (h : ∀ k, g k = f k) (k : EvP f Q) : EvP g Q := by
  obtain ⟨r, hr, hq⟩ := k
  exact ⟨r, Ev.congr h hr, hq⟩
theorem EvP.mono {α : Type} {g : Nat → Option α} {P Q : α → Prop} (h : EvP g P) (k : ∀ r, P r → Q r) : EvP g Q := by
  obtain ⟨r, hr, hp⟩ := h
  exact ⟨r, hr, k r hp⟩
theorem EvP.rounds {α : Type} {g : Nat → Option α} {r : α} (h : EvP g (· = r)) : ∃ k, g k = some r := by
  obtain ⟨q, hq, rfl⟩ := h
  exact hq.rounds
theorem EvP.ev {α : Type} {g : Nat → Option α} {r : α} (h : Ev g r) : EvP g (· = r) := ⟨r, h, rfl⟩
/-- What has no rounds, told as what has some. -/
theorem EvP.plain {α : Type} {g : Option α} {P : α → Prop} (h : EvP (fun _ => g) P) : ∃ r, g = some r ∧ P r := by
  obtain ⟨r, ⟨K, hK⟩, hp⟩ := h
  exact ⟨r, hK K (Nat.le_refl _), hp⟩
theorem wz {n : Int} (h : -9223372036854775808 ≤ n) (k : n ≤ 9223372036854775807) : wrap64 n = n := by
  unfold wrap64; omega
theorem bounds64 {n : Int} (h : (Lit.int .i64 n).wf = true) : -9223372036854775808 ≤ n ∧ n ≤ 9223372036854775807 := by
  simp [Lit.wf, IntKind.min, IntKind.max, IntKind.signed, IntKind.bits] at h
  omega

theorem MetricHeights : MetricHeights_Pure := by
  intro x hx
  have hb := bounds64 hx.1
  refine EvP.rounds (g := fun k => chancerykeep3_MetricHeights.f k x.f0 x.f1 x.f2) ?_
  unfold chancerykeep3_MetricHeights.f
  have h0 : metric_Height.f 240 false false = some (192, 48, 0) := by kernel_rfl
  refine EvP.bind (EvP.cst h0 (P := (· = (192, 48, 0))) rfl) (fun t ht => ?_)
  subst ht
  refine EvP.pos rfl (EvP.pos rfl ?_)
  refine EvP.step (fun k => by simp only [chancerykeep3_MetricHeights.j0]; rfl) ?_
  refine EvP.neg (by simp) ?_
  by_cases hr : 40 ≤ x.f0 ∧ x.f0 ≤ 4000
  · have e1 : metric_Check.f x.f0 x.f1 x.f2 = some 0 := by unfold metric_Check.f; rw [if_neg (by omega), if_neg (by omega)]
    have e3 : metric_round.f (wrap64 (4 * x.f0)) 5 = some ((8 * x.f0 + 5) / 10) := by
      unfold metric_round.f
      rw [wz (n := 4 * x.f0) (by omega) (by omega), wz (n := 2 * 5) (by omega) (by omega), if_neg (by omega), wz (n := 2 * (4 * x.f0)) (by omega) (by omega), wz (n := 2 * (4 * x.f0) + 5) (by omega) (by omega), Int.tdiv_eq_ediv_of_nonneg (by omega), wz (by omega) (by omega)]
      congr 2; omega
    have e2 : metric_Height.f x.f0 x.f1 x.f2 = some ((8 * x.f0 + 5) / 10, x.f0 - (8 * x.f0 + 5) / 10, 0) := by
      unfold metric_Height.f
      rw [e1]; simp only [Option.bind_some]; rw [if_pos trivial, e3]; simp only [Option.bind_some]
      rw [wz (by omega) (by omega)]
    refine EvP.bind (EvP.cst e2 (P := (· = ((8 * x.f0 + 5) / 10, x.f0 - (8 * x.f0 + 5) / 10, 0))) rfl) (fun t ht => ?_)
    subst ht
    refine EvP.bind (EvP.cst e1 (P := (· = 0)) rfl) (fun t ht => ?_)
    subst ht
    refine EvP.pos rfl (EvP.pos rfl ?_)
    simp only
    refine EvP.pos (by rw [wz (by omega) (by omega)]; omega) ?_
    rw [wz (n := 10 * ((8 * x.f0 + 5) / 10)) (by omega) (by omega), wz (n := 8 * x.f0) (by omega) (by omega), wz (n := 8 * x.f0 - 5) (by omega) (by omega), wz (n := 8 * x.f0 + 5) (by omega) (by omega)]
    refine EvP.pos (by omega) (EvP.ret ?_)
    simp; omega
  · have e1 : metric_Check.f x.f0 x.f1 x.f2 = some 2 := by unfold metric_Check.f; by_cases h : x.f0 < 40 <;> simp [h]; omega
    have e2 : metric_Height.f x.f0 x.f1 x.f2 = some (0, 0, 2) := by
      unfold metric_Height.f
      rw [e1]; rfl
    refine EvP.bind (EvP.cst e2 (P := (· = (0, 0, 2))) rfl) (fun t ht => ?_)
    subst ht
    refine EvP.bind (EvP.cst e1 (P := (· = 2)) rfl) (fun t ht => ?_)
    subst ht
    exact EvP.neg (by omega) (EvP.pos rfl (EvP.pos rfl (EvP.ret (by rfl))))

end Go.Proofs.Ytohaoaiffneamaa.Pure
