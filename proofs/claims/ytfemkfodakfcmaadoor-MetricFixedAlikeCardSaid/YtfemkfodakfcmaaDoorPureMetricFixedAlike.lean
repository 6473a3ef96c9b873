/- With a fixed width all characters are equally wide, marks and wide ones apart, and none is moved nearer: over plain values. No condition beyond the kinds of the arguments. -/
import Derived.Test.YtfemkfodakfcmaaDoorTypMetricFixedAlike
namespace Go.Proofs.YtfemkfodakfcmaaDoor.Pure
open Go.RowKit Go.Proofs.YtfemkfodakfcmaaDoor.QMetricFixedAlike Go.Proofs.YtfemkfodakfcmaaDoorW.PrintWords Go.Proofs.YtfemkfodakfcmaaDoorW.PrintLast Go.Proofs.YtfemkfodakfcmaaDoorW.PrintMore
set_option linter.unusedVariables false
set_option linter.unusedSimpArgs false

/-- From some number of rounds on the answer is there, and it is as told. -/
def EvP {α : Type} (g : Nat → Option α) (P : α → Prop) : Prop := ∃ r, Ev g r ∧ P r
theorem EvP.ret {α : Type} {r : α} {P : α → Prop} (h : P r) : EvP (fun _ => some r) P := ⟨r, Ev.now r, h⟩
theorem EvP.cst {α : Type} {g : Option α} {r : α} {P : α → Prop} (e : g = some r) (h : P r) : EvP (fun _ => g) P := ⟨r, ⟨0, fun _ _ => e⟩, h⟩
theorem EvP.bind {α β : Type} {g : Nat → Option α} {f : Nat → α → Option β} {P : α → Prop} {Q : β → Prop} (h : EvP g P) (k : ∀ a, P a → EvP (fun n => f n a) Q) : EvP (fun n => (g n).bind (f n)) Q := by
  obtain ⟨a, ha, hp⟩ := h
  obtain ⟨r, hr, hq⟩ := k a hp
  exact ⟨r, Ev.bind ha hr, hq⟩
theorem EvP.ite {α : Type} {c : Prop} [Decidable c] {a b : Nat → Option α} {Q : α → Prop} (h : c → EvP a Q) (k : ¬ c → EvP b Q) : EvP (fun n => if c then a n else b n) Q := by
  by_cases hc : c
  · simp only [if_pos hc]; exact h hc
  · simp only [if_neg hc]; exact k hc
theorem EvP.pos {α : Type} {c : Prop} [Decidable c] {a b : Nat → Option α} {Q : α → Prop} (hc : c) (h : EvP a Q) : EvP (fun n => if c then a n else b n) Q := by
  simp only [if_pos hc]; exact h
theorem EvP.neg {α : Type} {c : Prop} [Decidable c] {a b : Nat → Option α} {Q : α → Prop} (hc : ¬ c) (h : EvP b Q) : EvP (fun n => if c then a n else b n) Q := by
  simp only [if_neg hc]; exact h
theorem EvP.step {α : Type} {g f : Nat → Option α} {Q : α → Prop} (h : ∀ k, g (k + 1) = f k) (k : EvP f Q) : EvP g Q := by
  obtain ⟨r, hr, hq⟩ := k
  exact ⟨r, Ev.step h hr, hq⟩
theorem EvP.congr {α : Type} {g f : Nat → Option α} {Q : α → Prop} (h : ∀ k, g k = f k) (k : EvP f Q) : EvP g Q := by
  obtain ⟨r, hr, hq⟩ := k
  exact ⟨r, Ev.congr h hr, hq⟩
theorem EvP.mono {α : Type} {g : Nat → Option α} {P Q : α → Prop} (h : EvP g P) (k : ∀ r, P r → Q r) : EvP g Q := by
  obtain ⟨r, hr, hp⟩ := h
  exact ⟨r, hr, k r hp⟩
theorem EvP.rounds {α : Type} {g : Nat → Option α} {r : α} (h : EvP g (· = r)) : ∃ k, g k = some r := by
  obtain ⟨q, hq, rfl⟩ := h
  exact hq.rounds
theorem EvP.ev {α : Type} {g : Nat → Option α} {r : α} (h : Ev g r) : EvP g (· = r) := ⟨r, h, rfl⟩
/-- What has no rounds, told as what has some. -/
theorem EvP.plain {α : Type} {g : Option α} {P : α → Prop} (h : EvP (fun _ => g) P) : ∃ r, g = some r ∧ P r := by
  obtain ⟨r, ⟨K, hK⟩, hp⟩ := h
  exact ⟨r, hK K (Nat.le_refl _), hp⟩
theorem wz {n : Int} (h : -9223372036854775808 ≤ n) (k : n ≤ 9223372036854775807) : wrap64 n = n := by
  unfold wrap64; omega
theorem bounds64 {n : Int} (h : (Lit.int .i64 n).wf = true) : -9223372036854775808 ≤ n ∧ n ≤ 9223372036854775807 := by
  simp [Lit.wf, IntKind.min, IntKind.max, IntKind.signed, IntKind.bits] at h
  omega

theorem within_ok {x lo hi : Int} (hx : -9223372036854775808 ≤ x ∧ x ≤ 9223372036854775807) (h : lo ≤ hi) (hlo : -4611686018427387904 ≤ lo) (hhi : hi ≤ 4611686018427387904) (hd : hi - lo < 2305843009213693952) :
    ∃ r, ck_within.f x lo hi = some r ∧ lo ≤ r ∧ r ≤ hi := by
  unfold ck_within.f
  rw [wz (n := hi - lo) (by omega) (by omega), wz (n := hi - lo + 1) (by omega) (by omega)]
  obtain ⟨n, hn⟩ : ∃ n, n = hi - lo + 1 := ⟨_, rfl⟩
  rw [← hn, if_neg (by omega)]
  have t1 : -n < Int.tmod x n ∧ Int.tmod x n < n := by
    constructor
    · by_cases h0 : 0 ≤ x
      · have := Int.tmod_nonneg n h0; omega
      · obtain ⟨m, rfl⟩ : ∃ m, x = -m := ⟨-x, by omega⟩
        rw [Int.neg_tmod]
        have := Int.tmod_lt_of_pos m (show 0 < n by omega)
        omega
    · exact Int.tmod_lt_of_pos x (by omega)
  rw [wz (n := Int.tmod x n + n) (by omega) (by omega)]
  have t2 := Int.tmod_nonneg n (show 0 ≤ Int.tmod x n + n by omega)
  have t3 := Int.tmod_lt_of_pos (Int.tmod x n + n) (show 0 < n by omega)
  refine ⟨_, rfl, ?_, ?_⟩
  · rw [wz (by omega) (by omega)]; omega
  · rw [wz (by omega) (by omega)]; omega
theorem within_ev {x lo hi : Int} (hx : -9223372036854775808 ≤ x ∧ x ≤ 9223372036854775807) (h : lo ≤ hi) (hlo : -4611686018427387904 ≤ lo) (hhi : hi ≤ 4611686018427387904) (hd : hi - lo < 2305843009213693952) :
    EvP (fun _ => ck_within.f x lo hi) (fun r => lo ≤ r ∧ r ≤ hi) := by
  obtain ⟨r, e, h⟩ := within_ok hx h hlo hhi hd
  exact EvP.cst e h
theorem rd_nat (l : List Int) (i : Nat) : rd l (i : Int) = l[i]?.getD 0 := by unfold rd; rw [Int.toNat_natCast, List.getD_eq_getElem?_getD]
theorem rd_mem {l : List Int} {i : Nat} (h : i < l.length) : rd l (i : Int) ∈ l := by
  rw [rd_nat, List.getElem?_eq_getElem h]; exact List.getElem_mem _
theorem wsucc {j n : Nat} (h : j < n) (hn : n ≤ 9223372036854775807) : wrap64 ((j : Int) + 1) = ((j + 1 : Nat) : Int) := by rw [wz (by omega) (by omega)]; omega

def ins (l : List S73) (c : Int) : Int × Bool := match l.find? (fun s => decide (s.f0 ≤ c) && decide (c ≤ s.f1)) with
  | some s => (s.f2, true)
  | none => (0, false)
theorem ins_cons (s : S73) (l : List S73) (c : Int) : ins (s :: l) c = if s.f0 ≤ c ∧ c ≤ s.f1 then (s.f2, true) else ins l c := by
  unfold ins
  rw [List.find?_cons]
  by_cases h : s.f0 ≤ c ∧ c ≤ s.f1
  · rw [if_pos h]; simp [h.1, h.2]
  · rw [if_neg h]
    have : (decide (s.f0 ≤ c) && decide (c ≤ s.f1)) = false := by simpa using h
    rw [this]
theorem within_l (c : Int) (l : List S73) (hl : l.length ≤ 1000) : ∀ (d j : Nat), j + d = l.length → EvP (fun k => metric_within.l0 k c l (l.length : Int) (j : Int)) (· = ins (l.drop j) c) := by
  intro d
  induction d with
  | zero =>
    intro j hj
    refine EvP.step (fun k => by simp only [metric_within.l0]; rfl) ?_
    refine EvP.neg (by omega) (EvP.ret ?_)
    rw [List.drop_of_length_le (by omega)]; rfl
  | succ d ih =>
    intro j hj
    have hlt : j < l.length := by omega
    have hd : l.drop j = l[j] :: l.drop (j + 1) := List.drop_eq_getElem_cons hlt
    have hrd : rd_T73 l (j : Int) = l[j] := by unfold rd_T73; rw [Int.toNat_natCast, List.getD_eq_getElem?_getD, List.getElem?_eq_getElem hlt]; rfl
    have hw := wsucc hlt (by omega)
    have ih' := ih (j + 1) (by omega)
    refine EvP.step (fun k => by simp only [metric_within.l0]; rfl) ?_
    refine EvP.pos (by omega) (EvP.pos (by omega) (EvP.pos (by omega) ?_))
    simp only [hrd, hw]
    refine EvP.ite (fun h1 => EvP.ite (fun h2 => EvP.ret ?_) (fun h2 => ?_)) (fun h1 => ?_)
    · have h1' : l[j].f0 ≤ c := h1
      rw [hd, ins_cons, if_pos ⟨h1', h2⟩]
    · refine ih'.mono (fun r hr => ?_)
      rw [hr, hd, ins_cons, if_neg (fun h => h2 h.2)]
    · refine ih'.mono (fun r hr => ?_)
      have h1' : ¬ l[j].f0 ≤ c := h1
      rw [hr, hd, ins_cons, if_neg (fun h => h1' h.1)]
theorem metric_within_ev (c : Int) (l : List S73) (hl : l.length ≤ 1000) : EvP (fun k => metric_within.f k l c) (· = ins l c) := within_l c l hl l.length 0 (by omega)
theorem mark_ev (c : Int) : EvP (fun k => metric_Mark.f k c [tab1]) (fun _ => True) := by
  unfold metric_Mark.f
  refine EvP.pos (by decide) (EvP.bind (metric_within_ev c tab1 (by decide)) (fun r _ => EvP.ret trivial))
theorem ins_bound {l : List S73} {c B : Int} (h : ∀ s ∈ l, 0 ≤ s.f2 ∧ s.f2 ≤ B) (hB : 0 ≤ B) : 0 ≤ (ins l c).1 ∧ (ins l c).1 ≤ B := by
  unfold ins
  split
  · rename_i s hs; exact h s (List.mem_of_find?_eq_some hs)
  · exact ⟨Int.le_refl _, hB⟩
abbrev sb (r : Int × Bool) : Prop := 0 ≤ r.1 ∧ r.1 ≤ 880
theorem single_j2 (c : Int) (b : Bool) : EvP (fun k => metric_single.j2 k c b) sb := by
  refine EvP.step (fun k => by simp only [metric_single.j2]; rfl) ?_
  repeat' first | exact EvP.ret ⟨by decide, by decide⟩ | refine EvP.ite (fun _ => ?_) (fun _ => ?_)
theorem single_j1 (c : Int) (b : Bool) : EvP (fun k => metric_single.j1 k c b) sb := by
  refine EvP.step (fun k => by simp only [metric_single.j1]; rfl) ?_
  repeat' first | exact EvP.ret ⟨by decide, by decide⟩ | exact single_j2 _ _ | refine EvP.ite (fun _ => ?_) (fun _ => ?_)
theorem single_j0 (c : Int) (b : Bool) : EvP (fun k => metric_single.j0 k c b) sb := by
  refine EvP.step (fun k => by simp only [metric_single.j0]; rfl) ?_
  repeat' first | exact EvP.ret ⟨by decide, by decide⟩ | exact single_j1 _ _ | refine EvP.ite (fun _ => ?_) (fun _ => ?_)
theorem single_ev (c : Int) : EvP (fun k => metric_single.f k c) sb := by
  unfold metric_single.f
  repeat' first | exact EvP.ret ⟨by decide, by decide⟩ | exact single_j0 _ _ | refine EvP.ite (fun _ => ?_) (fun _ => ?_)
theorem tabO_in : ∀ s ∈ tab0, 0 ≤ s.f2 ∧ s.f2 ≤ 1000 := by
  have h : tab0.all (fun s => decide (0 ≤ s.f2) && decide (s.f2 ≤ 1000)) = true := by kernel_rfl
  intro s hs
  have := List.all_eq_true.1 h s hs
  simpa using this
theorem em_ev (c : Int) : EvP (fun k => metric_Em.f k c [tab0] [tab1]) (fun r => 0 ≤ r ∧ r ≤ 1000) := by
  unfold metric_Em.f
  refine EvP.bind (mark_ev c) (fun m _ => ?_)
  refine EvP.ite (fun _ => EvP.ret ⟨by decide, by decide⟩) (fun _ => ?_)
  refine EvP.bind (single_ev c) (fun r hr => ?_)
  refine EvP.ite (fun _ => EvP.ret ⟨hr.1, by have := hr.2; omega⟩) (fun _ => ?_)
  refine EvP.pos (by decide) (EvP.bind (metric_within_ev c tab0 (by decide)) (fun q hq => ?_))
  refine EvP.ite (fun _ => EvP.ret ?_) (fun _ => EvP.ret ⟨by decide, by decide⟩)
  rw [hq]; exact ins_bound tabO_in (by decide)
theorem round_ok {x : Int} (h : 0 ≤ x) (h1 : x ≤ 100000000) : metric_round.f x 1000 = some ((2 * x + 1000) / 2000) := by
  unfold metric_round.f
  rw [wz (n := 2 * 1000) (by omega) (by omega), if_neg (by omega), wz (n := 2 * x) (by omega) (by omega), wz (n := 2 * x + 1000) (by omega) (by omega), Int.tdiv_eq_ediv_of_nonneg (by omega), wz (by omega) (by omega)]
  rfl
theorem round_ev {x : Int} (h : 0 ≤ x) (h1 : x ≤ 100000000) : EvP (fun _ => metric_round.f x 1000) (· = (2 * x + 1000) / 2000) := EvP.cst (round_ok h h1) rfl
theorem mul_in {a s A S : Int} (h0 : 0 ≤ a) (h1 : a ≤ A) (h2 : 0 ≤ s) (h3 : s ≤ S) : 0 ≤ a * s ∧ a * s ≤ A * S := ⟨Int.mul_nonneg h0 h2, Int.mul_le_mul h1 h3 h2 (by omega)⟩
/-- The width of a character whose width in thousandths is told. -/
def advOf (s : Int) (bo fi : Bool) (em : Int) : Int := if em = 0 then 0 else (2 * ((if fi then (if em = 1000 then 1200 else 600) else if bo then em + 40 else em) * s) + 1000) / 2000
theorem adv_j0 (em s : Int) (eq bo fi : Bool) (h0 : 0 ≤ em) (h1 : em ≤ 1000) (s0 : 40 ≤ s) (s1 : s ≤ 4000) : EvP (fun k => metric_advance.j0 k em eq s bo fi) (· = (2 * ((if eq then 1200 else if fi then 600 else if bo then em + 40 else em) * s) + 1000) / 2000) := by
  refine EvP.step (fun k => by simp only [metric_advance.j0]; rfl) ?_
  have a1 := mul_in (A := 1040) (S := 4000) (show 0 ≤ em + 40 by omega) (by omega) (show 0 ≤ s by omega) s1
  have a2 := mul_in (A := 1040) (S := 4000) h0 (by omega) (show 0 ≤ s by omega) s1
  refine EvP.ite (fun e => ?_) (fun e => EvP.ite (fun f => ?_) (fun f => EvP.ite (fun b => ?_) (fun b => ?_)))
  · rw [wz (by omega) (by omega)]
    exact EvP.bind (round_ev (by omega) (by omega)) (fun r hr => EvP.ret (by rw [hr]; simp [e]))
  · rw [wz (by omega) (by omega)]
    exact EvP.bind (round_ev (by omega) (by omega)) (fun r hr => EvP.ret (by rw [hr]; simp [e, f]))
  · rw [wz (n := em + 40) (by omega) (by omega), wz (by omega) (by omega)]
    exact EvP.bind (round_ev (by omega) (by omega)) (fun r hr => EvP.ret (by rw [hr]; simp [e, f, b]))
  · rw [wz (by omega) (by omega)]
    exact EvP.bind (round_ev (by omega) (by omega)) (fun r hr => EvP.ret (by rw [hr]; simp [e, f, b]))
theorem adv_ev {c em s : Int} (bo fi : Bool) (hem : Ev (fun k => metric_Em.f k c [tab0] [tab1]) em) (h0 : 0 ≤ em) (h1 : em ≤ 1000) (s0 : 40 ≤ s) (s1 : s ≤ 4000) : EvP (fun k => metric_advance.f k c s bo fi [tab0] [tab1]) (· = advOf s bo fi em) := by
  unfold metric_advance.f
  refine EvP.bind (EvP.ev hem) (fun e he => ?_)
  subst he
  refine EvP.ite (fun z => EvP.ret (by simp [advOf, z])) (fun z => EvP.ite (fun f => ?_) (fun f => ?_))
  · refine (adv_j0 e s (e == 1000) bo fi h0 h1 s0 s1).mono (fun r hr => ?_)
    rw [hr]; simp [advOf, z, f]
  · refine (adv_j0 e s false bo fi h0 h1 s0 s1).mono (fun r hr => ?_)
    rw [hr]; simp [advOf, z, f]
theorem advOf_in {s : Int} {bo fi : Bool} {em : Int} (h0 : 0 ≤ em) (h1 : em ≤ 1000) (s0 : 40 ≤ s) (s1 : s ≤ 4000) : 0 ≤ advOf s bo fi em ∧ advOf s bo fi em ≤ 5000 := by
  unfold advOf
  obtain ⟨z, hz, z0, z1⟩ : ∃ z, z = (if fi = true then (if em = 1000 then 1200 else 600) else if bo = true then em + 40 else em) ∧ 0 ≤ z ∧ z ≤ 1200 := ⟨_, rfl, by split <;> split <;> omega, by split <;> split <;> omega⟩
  rw [← hz]
  have := mul_in (A := 1200) (S := 4000) z0 z1 (show 0 ≤ s by omega) s1
  split <;> omega
theorem pair1_ev (a : Int) : EvP (fun _ => metric_pair_1.f a) (fun _ => True) := by
  unfold metric_pair_1.f
  repeat' first | exact EvP.ret trivial | refine EvP.ite (fun _ => ?_) (fun _ => ?_)
abbrev pb (r : Int) : Prop := 0 ≤ r ∧ r ≤ 90
theorem pair_j1 (a b : Int) (x : Bool) : EvP (fun k => metric_pair.j1 k a b x) pb := by
  refine EvP.step (fun k => by simp only [metric_pair.j1]; rfl) ?_
  refine EvP.ite (fun _ => EvP.ret ⟨by decide, by decide⟩) (fun _ => EvP.bind (pair1_ev a) (fun t _ => ?_))
  repeat' first | exact EvP.ret ⟨by decide, by decide⟩ | refine EvP.ite (fun _ => ?_) (fun _ => ?_)
theorem pair_j0 (a b : Int) (x : Bool) : EvP (fun k => metric_pair.j0 k a b x) pb := by
  refine EvP.step (fun k => by simp only [metric_pair.j0]; rfl) ?_
  refine EvP.ite (fun _ => pair_j1 _ _ _) (fun _ => EvP.ite (fun _ => EvP.bind (pair1_ev b) (fun t _ => pair_j1 _ _ _)) (fun _ => pair_j1 _ _ _))
theorem pair_ev (a b : Int) : EvP (fun k => metric_pair.f k a b) pb := by
  unfold metric_pair.f
  exact EvP.bind (pair1_ev a) (fun t _ => EvP.ite (fun _ => pair_j0 _ _ _) (fun _ => pair_j0 _ _ _))
theorem kern_ev {s : Int} (a b : Int) (bo fi : Bool) (s0 : 40 ≤ s) (s1 : s ≤ 4000) : EvP (fun k => metric_kern.f k a b s bo fi) (fun r => -400 ≤ r ∧ r ≤ 0 ∧ (fi = true → r = 0)) := by
  unfold metric_kern.f
  refine EvP.ite (fun f => EvP.ret ⟨by decide, by decide, fun _ => rfl⟩) (fun f => EvP.bind (pair_ev a b) (fun p hp => ?_))
  have := mul_in (A := 90) (S := 4000) hp.1 hp.2 (show 0 ≤ s by omega) s1
  rw [wz (n := p * s) (by omega) (by omega)]
  refine EvP.bind (round_ev (by omega) (by omega)) (fun r hr => EvP.ret ?_)
  rw [hr, wz (by omega) (by omega)]
  exact ⟨by omega, by omega, fun h => absurd h f⟩
theorem check_ok {s : Int} (bo fi : Bool) (s0 : 40 ≤ s) (s1 : s ≤ 4000) : metric_Check.f s bo fi = some 0 := by
  unfold metric_Check.f; rw [if_neg (by omega), if_neg (by omega)]
/-- Functions for what all characters come to. -/
theorem em_fn : ∃ em : Int → Int, ∀ c, Ev (fun k => metric_Em.f k c [tab0] [tab1]) (em c) ∧ 0 ≤ em c ∧ em c ≤ 1000 := ⟨fun c => (em_ev c).choose, fun c => (em_ev c).choose_spec⟩

theorem advance_ev {c em s : Int} (bo fi : Bool) (c0 : 0 ≤ c) (c1 : c ≤ 1114111) (hem : Ev (fun k => metric_Em.f k c [tab0] [tab1]) em) (h0 : 0 ≤ em) (h1 : em ≤ 1000) (s0 : 40 ≤ s) (s1 : s ≤ 4000) : EvP (fun k => metric_Advance.f k c s bo fi [tab0] [tab1]) (· = (advOf s bo fi em, 0)) := by
  unfold metric_Advance.f
  refine EvP.bind (EvP.cst (check_ok bo fi s0 s1) (P := (· = 0)) rfl) (fun e he => ?_)
  subst he
  exact EvP.pos rfl (EvP.neg (by omega) (EvP.neg (by omega) (EvP.bind (adv_ev bo fi hem h0 h1 s0 s1) (fun r hr => EvP.ret (by rw [hr])))))
theorem kernel_ev {a b s : Int} (bo : Bool) (a0 : 0 ≤ a) (a1 : a ≤ 1114111) (b0 : 0 ≤ b) (b1 : b ≤ 1114111) (s0 : 40 ≤ s) (s1 : s ≤ 4000) : EvP (fun k => metric_Kern.f k a b s bo true) (· = (0, 0)) := by
  unfold metric_Kern.f
  refine EvP.bind (EvP.cst (check_ok bo true s0 s1) (P := (· = 0)) rfl) (fun e he => ?_)
  subst he
  exact EvP.pos rfl (EvP.neg (by omega) (EvP.neg (by omega) (EvP.neg (by omega) (EvP.neg (by omega) (EvP.bind (kern_ev a b bo true s0 s1) (fun r hr => EvP.ret (by rw [hr.2.2 rfl])))))))
theorem adv_fixed (s : Int) (b b' : Bool) (em : Int) : advOf s b true em = advOf s b' true em := by unfold advOf; simp
theorem fixed_end {e s : Int} (b : Bool) (s0 : 40 ≤ s) (s1 : s ≤ 4000) (hem : ∀ k : Int, k = 0 → True) :
    (e = 0 → advOf s b true e = 0) ∧ (e ≠ 0 → e = 1000 → 2 * advOf s b true 280 - 1 ≤ advOf s b true e ∧ advOf s b true e ≤ 2 * advOf s b true 280 + 1) ∧ (e ≠ 0 → e ≠ 1000 → advOf s b true e = advOf s b true 280) ∧ 0 ≤ advOf s b true 280 ∧ advOf s b true 280 ≤ 5000 := by
  have h280 : advOf s b true 280 = (2 * (600 * s) + 1000) / 2000 := by simp [advOf]
  refine ⟨fun h => by simp [advOf, h], fun h h1 => ?_, fun h h1 => ?_, ?_, ?_⟩
  · rw [h280]; simp only [advOf, h1]; simp; omega
  · rw [h280]; simp [advOf, h, h1]
  · rw [h280]; omega
  · rw [h280]; omega
theorem MetricFixedAlike : MetricFixedAlike_Pure := by
  intro a b x ha hb hx
  have ba := bounds64 ha
  have bb := bounds64 hb
  have bx := bounds64 hx.1
  clear ha hb hx
  refine EvP.rounds (g := fun k => ck_MetricFixedAlike.f k a b x.f0 x.f1 x.f2 [tab0] [tab1]) ?_
  unfold ck_MetricFixedAlike.f
  have hm : EvP (fun k => ck_metrics.f k [tab0] [tab1]) (· = true) := ⟨true, Ev.of (ck_metrics.mono _ _) (k := 60) (by kernel_rfl), rfl⟩
  have h280 : Ev (fun k => metric_Em.f k 105 [tab0] [tab1]) 280 := Ev.of (metric_Em.mono _ _ _) (k := 60) (by kernel_rfl)
  refine EvP.bind hm (fun m e => ?_)
  subst e
  refine EvP.pos rfl ?_
  refine EvP.bind (within_ev ba (by omega) (by omega) (by omega) (by omega)) (fun c hc => ?_)
  refine EvP.bind (within_ev bb (by omega) (by omega) (by omega) (by omega)) (fun d hd => ?_)
  refine EvP.bind (P := fun r => 40 ≤ r.1 ∧ r.1 ≤ 4000) ?_ (fun sz hsz => ?_)
  · unfold ck_look.f
    exact EvP.bind (within_ev bx (by omega) (by omega) (by omega) (by omega)) (fun r hr => EvP.ret hr)
  obtain ⟨s, bo, fi⟩ := sz
  obtain ⟨s0, s1⟩ := hsz
  simp only at s0 s1 ⊢
  clear ba bb bx
  obtain ⟨em, hem, e0, e1⟩ := em_ev c
  refine EvP.bind (advance_ev bo true hc.1 hc.2 hem e0 e1 s0 s1) (fun r hr => ?_)
  subst hr
  refine EvP.bind (advance_ev (!bo) true hc.1 hc.2 hem e0 e1 s0 s1) (fun r hr => ?_)
  subst hr
  refine EvP.bind (kernel_ev bo hc.1 hc.2 hd.1 hd.2 s0 s1) (fun r hr => ?_)
  subst hr
  refine EvP.bind (advance_ev bo true (by omega) (by omega) h280 (by omega) (by omega) s0 s1) (fun r hr => ?_)
  subst hr
  refine EvP.pos rfl (EvP.pos rfl (EvP.pos rfl (EvP.pos rfl (EvP.pos (adv_fixed s bo (!bo) em) ?_))))
  refine EvP.step (fun k => by simp only [ck_MetricFixedAlike.j0]; rfl) ?_
  refine EvP.neg (by simp) (EvP.bind (EvP.ev hem) (fun e he => ?_))
  subst he
  obtain ⟨f1, f2, f3, f4, f5⟩ := fixed_end (e := e) bo s0 s1 (fun _ _ => trivial)
  refine EvP.ite (fun h => EvP.ret (by simp [f1 h])) (fun h => EvP.ite (fun h1 => ?_) (fun h1 => EvP.ret (by simp [f3 h h1])))
  have f2' := f2 h h1
  rw [wz (n := 2 * advOf s bo true 280) (by omega) (by omega), wz (n := 2 * advOf s bo true 280 - 1) (by omega) (by omega), wz (n := 2 * advOf s bo true 280 + 1) (by omega) (by omega)]
  exact EvP.pos (by omega) (EvP.ret (by simp; omega))

end Go.Proofs.YtfemkfodakfcmaaDoor.Pure
