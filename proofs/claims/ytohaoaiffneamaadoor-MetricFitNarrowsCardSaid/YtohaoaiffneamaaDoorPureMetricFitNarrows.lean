/- What fits is no wider than told, one character more with its marks would be wider, and a wider place never takes less: over plain values. No condition beyond the kinds of the arguments. -/
import Derived.Test.YtohaoaiffneamaaDoorTypMetricFitNarrows
namespace Go.Proofs.YtohaoaiffneamaaDoor.Pure
open Go.RowKit Go.Proofs.YtohaoaiffneamaaDoor.QMetricFitNarrows Go.Proofs.YtohaoaiffneamaaDoorW.PrintWords Go.Proofs.YtohaoaiffneamaaDoorW.PrintLast Go.Proofs.YtohaoaiffneamaaDoorW.PrintMore
set_option linter.unusedVariables false
set_option linter.unusedSimpArgs false

/-- From some number of rounds on the answer is there, and it is as told. -/
def EvP {α : Type} (g : Nat → Option α) (P : α → Prop) : Prop := ∃ r, Ev g r ∧ P r
theorem EvP.ret {α : Type} {r : α} {P : α → Prop} (h : P r) : EvP (fun _ => some r) P := ⟨r, Ev.now r, h⟩
theorem EvP.cst {α : Type} {g : Option α} {r : α} {P : α → Prop} (e : g = some r) (h : P r) : EvP (fun _ => g) P := ⟨r, ⟨0, fun _ _ => e⟩, h⟩
theorem EvP.bind {α β : Type} {g : Nat → Option α} {f : Nat → α → Option β} {P : α → Prop} {Q : β → Prop} (h : EvP g P) (k : ∀ a, P a → EvP (fun n => f n a) Q) : EvP (fun n => (g n).bind (f n)) Q := by
  obtain ⟨a, ha, hp⟩ := h
  obtain ⟨r, hr, hq⟩ := k a hp
  exact ⟨r, Ev.bind ha hr, hq⟩
theorem EvP.ite {α : Type} {c : Prop} [Decidable c] {a b : Nat → Option α} {Q : α → Prop} (h : c → EvP a Q) (k : ¬ c → EvP b Q) : EvP (fun n => if c then a n else b n) Q := by
  by_cases hc : c
  · simp only [if_pos hc]; exact h hc
  · simp only [if_neg hc]; exact k hc
theorem EvP.pos {α : Type} {c : Prop} [Decidable c] {a b : Nat → Option α} {Q : α → Prop} (hc : c) (h : EvP a Q) : EvP (fun n => if c then a n else b n) Q := by
  simp only [if_pos hc]; exact h
theorem EvP.neg {α : Type} {c : Prop} [Decidable c] {a b : Nat → Option α} {Q : α → Prop} (hc : ¬ c) (h : EvP b Q) : EvP (fun n => if c then a n else b n) Q := by
  simp only [if_neg hc]; exact h
theorem EvP.step {α : Type} {g f : Nat → Option α} {Q : α → Prop} (h : ∀ k, g (k + 1) = f k) (k : EvP f Q) : EvP g Q := by
  obtain ⟨r, hr, hq⟩ := k
  exact ⟨r, Ev.step h hr, hq⟩
theorem EvP.congr {α : Type} {g f : Nat → Option α} {Q : α → Prop} (h : ∀ k, g k = f k) (k : EvP f Q) : EvP g Q := by
  obtain ⟨r, hr, hq⟩ := k
  exact ⟨r, Ev.congr h hr, hq⟩
theorem EvP.mono {α : Type} {g : Nat → Option α} {P Q : α → Prop} (h : EvP g P) (k : ∀ r, P r → Q r) : EvP g Q := by
  obtain ⟨r, hr, hp⟩ := h
  exact ⟨r, hr, k r hp⟩
theorem EvP.rounds {α : Type} {g : Nat → Option α} {r : α} (h : EvP g (· = r)) : ∃ k, g k = some r := by
  obtain ⟨q, hq, rfl⟩ := h
  exact hq.rounds
theorem EvP.ev {α : Type} {g : Nat → Option α} {r : α} (h : Ev g r) : EvP g (· = r) := ⟨r, h, rfl⟩
/-- What has no rounds, told as what has some. -/
theorem EvP.plain {α : Type} {g : Option α} {P : α → Prop} (h : EvP (fun _ => g) P) : ∃ r, g = some r ∧ P r := by
  obtain ⟨r, ⟨K, hK⟩, hp⟩ := h
  exact ⟨r, hK K (Nat.le_refl _), hp⟩
theorem wz {n : Int} (h : -9223372036854775808 ≤ n) (k : n ≤ 9223372036854775807) : wrap64 n = n := by
  unfold wrap64; omega
theorem bounds64 {n : Int} (h : (Lit.int .i64 n).wf = true) : -9223372036854775808 ≤ n ∧ n ≤ 9223372036854775807 := by
  simp [Lit.wf, IntKind.min, IntKind.max, IntKind.signed, IntKind.bits] at h
  omega

theorem within_ok {x lo hi : Int} (hx : -9223372036854775808 ≤ x ∧ x ≤ 9223372036854775807) (h : lo ≤ hi) (hlo : -4611686018427387904 ≤ lo) (hhi : hi ≤ 4611686018427387904) (hd : hi - lo < 2305843009213693952) :
    ∃ r, ck_within.f x lo hi = some r ∧ lo ≤ r ∧ r ≤ hi := by
  unfold ck_within.f
  rw [wz (n := hi - lo) (by omega) (by omega), wz (n := hi - lo + 1) (by omega) (by omega)]
  obtain ⟨n, hn⟩ : ∃ n, n = hi - lo + 1 := ⟨_, rfl⟩
  rw [← hn, if_neg (by omega)]
  have t1 : -n < Int.tmod x n ∧ Int.tmod x n < n := by
    constructor
    · by_cases h0 : 0 ≤ x
      · have := Int.tmod_nonneg n h0; omega
      · obtain ⟨m, rfl⟩ : ∃ m, x = -m := ⟨-x, by omega⟩
        rw [Int.neg_tmod]
        have := Int.tmod_lt_of_pos m (show 0 < n by omega)
        omega
    · exact Int.tmod_lt_of_pos x (by omega)
  rw [wz (n := Int.tmod x n + n) (by omega) (by omega)]
  have t2 := Int.tmod_nonneg n (show 0 ≤ Int.tmod x n + n by omega)
  have t3 := Int.tmod_lt_of_pos (Int.tmod x n + n) (show 0 < n by omega)
  refine ⟨_, rfl, ?_, ?_⟩
  · rw [wz (by omega) (by omega)]; omega
  · rw [wz (by omega) (by omega)]; omega
theorem within_ev {x lo hi : Int} (hx : -9223372036854775808 ≤ x ∧ x ≤ 9223372036854775807) (h : lo ≤ hi) (hlo : -4611686018427387904 ≤ lo) (hhi : hi ≤ 4611686018427387904) (hd : hi - lo < 2305843009213693952) :
    EvP (fun _ => ck_within.f x lo hi) (fun r => lo ≤ r ∧ r ≤ hi) := by
  obtain ⟨r, e, h⟩ := within_ok hx h hlo hhi hd
  exact EvP.cst e h
theorem rd_nat (l : List Int) (i : Nat) : rd l (i : Int) = l[i]?.getD 0 := by unfold rd; rw [Int.toNat_natCast, List.getD_eq_getElem?_getD]
theorem rd_mem {l : List Int} {i : Nat} (h : i < l.length) : rd l (i : Int) ∈ l := by
  rw [rd_nat, List.getElem?_eq_getElem h]; exact List.getElem_mem _
theorem wsucc {j n : Nat} (h : j < n) (hn : n ≤ 9223372036854775807) : wrap64 ((j : Int) + 1) = ((j + 1 : Nat) : Int) := by rw [wz (by omega) (by omega)]; omega

def ins (l : List S98) (c : Int) : Int × Bool := match l.find? (fun s => decide (s.f0 ≤ c) && decide (c ≤ s.f1)) with
  | some s => (s.f2, true)
  | none => (0, false)
theorem ins_cons (s : S98) (l : List S98) (c : Int) : ins (s :: l) c = if s.f0 ≤ c ∧ c ≤ s.f1 then (s.f2, true) else ins l c := by
  unfold ins
  rw [List.find?_cons]
  by_cases h : s.f0 ≤ c ∧ c ≤ s.f1
  · rw [if_pos h]; simp [h.1, h.2]
  · rw [if_neg h]
    have : (decide (s.f0 ≤ c) && decide (c ≤ s.f1)) = false := by simpa using h
    rw [this]
theorem within_l (c : Int) (l : List S98) (hl : l.length ≤ 1000) : ∀ (d j : Nat), j + d = l.length → EvP (fun k => metric_within.l0 k c l (l.length : Int) (j : Int)) (· = ins (l.drop j) c) := by
  intro d
  induction d with
  | zero =>
    intro j hj
    refine EvP.step (fun k => by simp only [metric_within.l0]; rfl) ?_
    refine EvP.neg (by omega) (EvP.ret ?_)
    rw [List.drop_of_length_le (by omega)]; rfl
  | succ d ih =>
    intro j hj
    have hlt : j < l.length := by omega
    have hd : l.drop j = l[j] :: l.drop (j + 1) := List.drop_eq_getElem_cons hlt
    have hrd : rd_T98 l (j : Int) = l[j] := by unfold rd_T98; rw [Int.toNat_natCast, List.getD_eq_getElem?_getD, List.getElem?_eq_getElem hlt]; rfl
    have hw := wsucc hlt (by omega)
    have ih' := ih (j + 1) (by omega)
    refine EvP.step (fun k => by simp only [metric_within.l0]; rfl) ?_
    refine EvP.pos (by omega) (EvP.pos (by omega) (EvP.pos (by omega) ?_))
    simp only [hrd, hw]
    refine EvP.ite (fun h1 => EvP.ite (fun h2 => EvP.ret ?_) (fun h2 => ?_)) (fun h1 => ?_)
    · have h1' : l[j].f0 ≤ c := h1
      rw [hd, ins_cons, if_pos ⟨h1', h2⟩]
    · refine ih'.mono (fun r hr => ?_)
      rw [hr, hd, ins_cons, if_neg (fun h => h2 h.2)]
    · refine ih'.mono (fun r hr => ?_)
      have h1' : ¬ l[j].f0 ≤ c := h1
      rw [hr, hd, ins_cons, if_neg (fun h => h1' h.1)]
theorem metric_within_ev (c : Int) (l : List S98) (hl : l.length ≤ 1000) : EvP (fun k => metric_within.f k l c) (· = ins l c) := within_l c l hl l.length 0 (by omega)
theorem mark_ev (c : Int) : EvP (fun k => metric_Mark.f k c [tab0]) (fun _ => True) := by
  unfold metric_Mark.f
  refine EvP.pos (by decide) (EvP.bind (metric_within_ev c tab0 (by decide)) (fun r _ => EvP.ret trivial))
theorem ins_bound {l : List S98} {c B : Int} (h : ∀ s ∈ l, 0 ≤ s.f2 ∧ s.f2 ≤ B) (hB : 0 ≤ B) : 0 ≤ (ins l c).1 ∧ (ins l c).1 ≤ B := by
  unfold ins
  split
  · rename_i s hs; exact h s (List.mem_of_find?_eq_some hs)
  · exact ⟨Int.le_refl _, hB⟩
abbrev sb (r : Int × Bool) : Prop := 0 ≤ r.1 ∧ r.1 ≤ 880
theorem single_j2 (c : Int) (b : Bool) : EvP (fun k => metric_single.j2 k c b) sb := by
  refine EvP.step (fun k => by simp only [metric_single.j2]; rfl) ?_
  repeat' first | exact EvP.ret ⟨by decide, by decide⟩ | refine EvP.ite (fun _ => ?_) (fun _ => ?_)
theorem single_j1 (c : Int) (b : Bool) : EvP (fun k => metric_single.j1 k c b) sb := by
  refine EvP.step (fun k => by simp only [metric_single.j1]; rfl) ?_
  repeat' first | exact EvP.ret ⟨by decide, by decide⟩ | exact single_j2 _ _ | refine EvP.ite (fun _ => ?_) (fun _ => ?_)
theorem single_j0 (c : Int) (b : Bool) : EvP (fun k => metric_single.j0 k c b) sb := by
  refine EvP.step (fun k => by simp only [metric_single.j0]; rfl) ?_
  repeat' first | exact EvP.ret ⟨by decide, by decide⟩ | exact single_j1 _ _ | refine EvP.ite (fun _ => ?_) (fun _ => ?_)
theorem single_ev (c : Int) : EvP (fun k => metric_single.f k c) sb := by
  unfold metric_single.f
  repeat' first | exact EvP.ret ⟨by decide, by decide⟩ | exact single_j0 _ _ | refine EvP.ite (fun _ => ?_) (fun _ => ?_)
theorem tab1_in : ∀ s ∈ tab1, 0 ≤ s.f2 ∧ s.f2 ≤ 1000 := by
  have h : tab1.all (fun s => decide (0 ≤ s.f2) && decide (s.f2 ≤ 1000)) = true := by kernel_rfl
  intro s hs
  have := List.all_eq_true.1 h s hs
  simpa using this
theorem em_ev (c : Int) : EvP (fun k => metric_Em.f k c [tab0] [tab1]) (fun r => 0 ≤ r ∧ r ≤ 1000) := by
  unfold metric_Em.f
  refine EvP.bind (mark_ev c) (fun m _ => ?_)
  refine EvP.ite (fun _ => EvP.ret ⟨by decide, by decide⟩) (fun _ => ?_)
  refine EvP.bind (single_ev c) (fun r hr => ?_)
  refine EvP.ite (fun _ => EvP.ret ⟨hr.1, by have := hr.2; omega⟩) (fun _ => ?_)
  refine EvP.pos (by decide) (EvP.bind (metric_within_ev c tab1 (by decide)) (fun q hq => ?_))
  refine EvP.ite (fun _ => EvP.ret ?_) (fun _ => EvP.ret ⟨by decide, by decide⟩)
  rw [hq]; exact ins_bound tab1_in (by decide)
theorem round_ok {x : Int} (h : 0 ≤ x) (h1 : x ≤ 100000000) : metric_round.f x 1000 = some ((2 * x + 1000) / 2000) := by
  unfold metric_round.f
  rw [wz (n := 2 * 1000) (by omega) (by omega), if_neg (by omega), wz (n := 2 * x) (by omega) (by omega), wz (n := 2 * x + 1000) (by omega) (by omega), Int.tdiv_eq_ediv_of_nonneg (by omega), wz (by omega) (by omega)]
  rfl
theorem round_ev {x : Int} (h : 0 ≤ x) (h1 : x ≤ 100000000) : EvP (fun _ => metric_round.f x 1000) (· = (2 * x + 1000) / 2000) := EvP.cst (round_ok h h1) rfl
theorem mul_in {a s A S : Int} (h0 : 0 ≤ a) (h1 : a ≤ A) (h2 : 0 ≤ s) (h3 : s ≤ S) : 0 ≤ a * s ∧ a * s ≤ A * S := ⟨Int.mul_nonneg h0 h2, Int.mul_le_mul h1 h3 h2 (by omega)⟩
/-- The width of a character whose width in thousandths is told. -/
def advOf (s : Int) (bo fi : Bool) (em : Int) : Int := if em = 0 then 0 else (2 * ((if fi then (if em = 1000 then 1200 else 600) else if bo then em + 40 else em) * s) + 1000) / 2000
theorem adv_j0 (em s : Int) (eq bo fi : Bool) (h0 : 0 ≤ em) (h1 : em ≤ 1000) (s0 : 40 ≤ s) (s1 : s ≤ 4000) : EvP (fun k => metric_advance.j0 k em eq s bo fi) (· = (2 * ((if eq then 1200 else if fi then 600 else if bo then em + 40 else em) * s) + 1000) / 2000) := by
  refine EvP.step (fun k => by simp only [metric_advance.j0]; rfl) ?_
  have a1 := mul_in (A := 1040) (S := 4000) (show 0 ≤ em + 40 by omega) (by omega) (show 0 ≤ s by omega) s1
  have a2 := mul_in (A := 1040) (S := 4000) h0 (by omega) (show 0 ≤ s by omega) s1
  refine EvP.ite (fun e => ?_) (fun e => EvP.ite (fun f => ?_) (fun f => EvP.ite (fun b => ?_) (fun b => ?_)))
  · rw [wz (by omega) (by omega)]
    exact EvP.bind (round_ev (by omega) (by omega)) (fun r hr => EvP.ret (by rw [hr]; simp [e]))
  · rw [wz (by omega) (by omega)]
    exact EvP.bind (round_ev (by omega) (by omega)) (fun r hr => EvP.ret (by rw [hr]; simp [e, f]))
  · rw [wz (n := em + 40) (by omega) (by omega), wz (by omega) (by omega)]
    exact EvP.bind (round_ev (by omega) (by omega)) (fun r hr => EvP.ret (by rw [hr]; simp [e, f, b]))
  · rw [wz (by omega) (by omega)]
    exact EvP.bind (round_ev (by omega) (by omega)) (fun r hr => EvP.ret (by rw [hr]; simp [e, f, b]))
theorem adv_ev {c em s : Int} (bo fi : Bool) (hem : Ev (fun k => metric_Em.f k c [tab0] [tab1]) em) (h0 : 0 ≤ em) (h1 : em ≤ 1000) (s0 : 40 ≤ s) (s1 : s ≤ 4000) : EvP (fun k => metric_advance.f k c s bo fi [tab0] [tab1]) (· = advOf s bo fi em) := by
  unfold metric_advance.f
  refine EvP.bind (EvP.ev hem) (fun e he => ?_)
  subst he
  refine EvP.ite (fun z => EvP.ret (by simp [advOf, z])) (fun z => EvP.ite (fun f => ?_) (fun f => ?_))
  · refine (adv_j0 e s (e == 1000) bo fi h0 h1 s0 s1).mono (fun r hr => ?_)
    rw [hr]; simp [advOf, z, f]
  · refine (adv_j0 e s false bo fi h0 h1 s0 s1).mono (fun r hr => ?_)
    rw [hr]; simp [advOf, z, f]
theorem advOf_in {s : Int} {bo fi : Bool} {em : Int} (h0 : 0 ≤ em) (h1 : em ≤ 1000) (s0 : 40 ≤ s) (s1 : s ≤ 4000) : 0 ≤ advOf s bo fi em ∧ advOf s bo fi em ≤ 5000 := by
  unfold advOf
  obtain ⟨z, hz, z0, z1⟩ : ∃ z, z = (if fi = true then (if em = 1000 then 1200 else 600) else if bo = true then em + 40 else em) ∧ 0 ≤ z ∧ z ≤ 1200 := ⟨_, rfl, by split <;> split <;> omega, by split <;> split <;> omega⟩
  rw [← hz]
  have := mul_in (A := 1200) (S := 4000) z0 z1 (show 0 ≤ s by omega) s1
  split <;> omega
theorem pair1_ev (a : Int) : EvP (fun _ => metric_pair_1.f a) (fun _ => True) := by
  unfold metric_pair_1.f
  repeat' first | exact EvP.ret trivial | refine EvP.ite (fun _ => ?_) (fun _ => ?_)
abbrev pb (r : Int) : Prop := 0 ≤ r ∧ r ≤ 90
theorem pair_j1 (a b : Int) (x : Bool) : EvP (fun k => metric_pair.j1 k a b x) pb := by
  refine EvP.step (fun k => by simp only [metric_pair.j1]; rfl) ?_
  refine EvP.ite (fun _ => EvP.ret ⟨by decide, by decide⟩) (fun _ => EvP.bind (pair1_ev a) (fun t _ => ?_))
  repeat' first | exact EvP.ret ⟨by decide, by decide⟩ | refine EvP.ite (fun _ => ?_) (fun _ => ?_)
theorem pair_j0 (a b : Int) (x : Bool) : EvP (fun k => metric_pair.j0 k a b x) pb := by
  refine EvP.step (fun k => by simp only [metric_pair.j0]; rfl) ?_
  refine EvP.ite (fun _ => pair_j1 _ _ _) (fun _ => EvP.ite (fun _ => EvP.bind (pair1_ev b) (fun t _ => pair_j1 _ _ _)) (fun _ => pair_j1 _ _ _))
theorem pair_ev (a b : Int) : EvP (fun k => metric_pair.f k a b) pb := by
  unfold metric_pair.f
  exact EvP.bind (pair1_ev a) (fun t _ => EvP.ite (fun _ => pair_j0 _ _ _) (fun _ => pair_j0 _ _ _))
theorem kern_ev {s : Int} (a b : Int) (bo fi : Bool) (s0 : 40 ≤ s) (s1 : s ≤ 4000) : EvP (fun k => metric_kern.f k a b s bo fi) (fun r => -400 ≤ r ∧ r ≤ 0 ∧ (fi = true → r = 0)) := by
  unfold metric_kern.f
  refine EvP.ite (fun f => EvP.ret ⟨by decide, by decide, fun _ => rfl⟩) (fun f => EvP.bind (pair_ev a b) (fun p hp => ?_))
  have := mul_in (A := 90) (S := 4000) hp.1 hp.2 (show 0 ≤ s by omega) s1
  rw [wz (n := p * s) (by omega) (by omega)]
  refine EvP.bind (round_ev (by omega) (by omega)) (fun r hr => EvP.ret ?_)
  rw [hr, wz (by omega) (by omega)]
  exact ⟨by omega, by omega, fun h => absurd h f⟩
theorem check_ok {s : Int} (bo fi : Bool) (s0 : 40 ≤ s) (s1 : s ≤ 4000) : metric_Check.f s bo fi = some 0 := by
  unfold metric_Check.f; rw [if_neg (by omega), if_neg (by omega)]
/-- Functions for what all characters come to. -/
theorem em_fn : ∃ em : Int → Int, ∀ c, Ev (fun k => metric_Em.f k c [tab0] [tab1]) (em c) ∧ 0 ≤ em c ∧ em c ≤ 1000 := ⟨fun c => (em_ev c).choose, fun c => (em_ev c).choose_spec⟩

section fit
variable {adv : Int → Int} {krn : Int → Int → Int}
/-- The width of the first i characters. -/
def wid (adv : Int → Int) (krn : Int → Int → Int) (t : List Int) : Nat → Int
  | 0 => 0
  | i + 1 => wid adv krn t i + adv (rd t (i : Int)) + (if i = 0 then 0 else krn (rd t ((i - 1 : Nat) : Int)) (rd t (i : Int)))
theorem wid_succ (t : List Int) (i : Nat) : wid adv krn t (i + 1) = wid adv krn t i + adv (rd t (i : Int)) + (if i = 0 then 0 else krn (rd t ((i - 1 : Nat) : Int)) (rd t (i : Int))) := rfl
theorem wid_in (ha : ∀ c, 0 ≤ adv c ∧ adv c ≤ 5000) (hk : ∀ a b, -400 ≤ krn a b ∧ krn a b ≤ 0) (t : List Int) (i : Nat) : -400 * (i : Int) ≤ wid adv krn t i ∧ wid adv krn t i ≤ 5000 * (i : Int) := by
  induction i with
  | zero => simp [wid]
  | succ i ih =>
    have h1 := ha (rd t (i : Int))
    have h2 := hk (rd t ((i - 1 : Nat) : Int)) (rd t (i : Int))
    unfold wid
    split <;> omega
theorem wid_take (t : List Int) (n : Nat) : ∀ i, i ≤ n → wid adv krn (t.take n) i = wid adv krn t i := by
  have hr : ∀ j : Nat, j < n → rd (t.take n) (j : Int) = rd t (j : Int) := fun j hj => by rw [rd_nat, rd_nat, List.getElem?_take, if_pos hj]
  intro i
  induction i with
  | zero => intro _; rfl
  | succ i ih =>
    intro hi
    unfold wid
    rw [ih (by omega), hr i (by omega)]
    by_cases h : i = 0
    · rw [if_pos h, if_pos h]
    · rw [if_neg h, if_neg h, hr (i - 1) (by omega)]
theorem checkText_l (t : List Int) (ht : ∀ x ∈ t, 0 ≤ x ∧ x ≤ 1114111) (hn : t.length ≤ 1000) : ∀ (d j : Nat), j + d = t.length → EvP (fun k => metric_checkText.l0 k t (t.length : Int) (j : Int)) (· = 0) := by
  intro d
  induction d with
  | zero =>
    intro j hj
    refine EvP.step (fun k => by simp only [metric_checkText.l0]; rfl) ?_
    exact EvP.neg (by omega) (EvP.ret rfl)
  | succ d ih =>
    intro j hj
    have hlt : j < t.length := by omega
    have hx := ht _ (rd_mem hlt)
    have hw := wsucc hlt (by omega)
    refine EvP.step (fun k => by simp only [metric_checkText.l0]; rfl) ?_
    refine EvP.pos (by omega) (EvP.pos (by omega) (EvP.pos (by omega) (EvP.neg (by omega) (EvP.neg (by omega) ?_))))
    simp only [hw]
    exact ih (j + 1) (by omega)
theorem checkText_ev (t : List Int) (ht : ∀ x ∈ t, 0 ≤ x ∧ x ≤ 1114111) (hn : t.length ≤ 1000) : EvP (fun k => metric_checkText.f k t) (· = 0) := by
  unfold metric_checkText.f
  exact EvP.neg (by omega) (checkText_l t ht hn t.length 0 (by omega))
variable {s : Int} {bo fi : Bool} {mk : Int → Bool}
  (hadv : ∀ c, Ev (fun k => metric_advance.f k c s bo fi [tab0] [tab1]) (adv c)) (hkrn : ∀ a b, Ev (fun k => metric_kern.f k a b s bo fi) (krn a b)) (hmk : ∀ c, Ev (fun k => metric_Mark.f k c [tab0]) (mk c))
  (ha : ∀ c, 0 ≤ adv c ∧ adv c ≤ 5000) (hk : ∀ a b, -400 ≤ krn a b ∧ krn a b ≤ 0) (s0 : 40 ≤ s) (s1 : s ≤ 4000)
include hadv hkrn ha hk
theorem width_l (t : List Int) (hn : t.length ≤ 1000) : ∀ (d j : Nat), j + d = t.length → EvP (fun k => metric_Width.l0 k t (wid adv krn t j) t (t.length : Int) (j : Int) [tab0] [tab1] s bo fi) (· = (wid adv krn t t.length, 0)) := by
  intro d
  induction d with
  | zero =>
    intro j hj
    refine EvP.step (fun k => by simp only [metric_Width.l0]; rfl) ?_
    obtain rfl : j = t.length := by omega
    exact EvP.neg (by omega) (EvP.ret rfl)
  | succ d ih =>
    intro j hj
    have hlt : j < t.length := by omega
    have hw := wsucc hlt (by omega)
    have b0 := wid_in ha hk t j
    have b1 := ha (rd t (j : Int))
    refine EvP.step (fun k => by simp only [metric_Width.l0]; rfl) ?_
    refine EvP.pos (by omega) (EvP.pos (by omega) (EvP.pos (by omega) ?_))
    refine EvP.bind (EvP.ev (hadv _)) (fun a e => ?_)
    subst e
    simp only [hw]
    refine EvP.ite (fun h => ?_) (fun h => ?_)
    · have e1 : wrap64 ((j : Int) - 1) = ((j - 1 : Nat) : Int) := by rw [wz (by omega) (by omega)]; omega
      simp only [e1]
      refine EvP.pos (by omega) (EvP.pos (by omega) ?_)
      have b2 := hk (rd t ((j - 1 : Nat) : Int)) (rd t (j : Int))
      refine EvP.bind (EvP.ev (hkrn _ _)) (fun a e => ?_)
      subst e
      rw [wz (n := wid adv krn t j + adv (rd t (j : Int))) (by omega) (by omega), wz (by omega) (by omega)]
      have := ih (j + 1) (by omega)
      rw [wid_succ t j, if_neg (by omega)] at this
      exact this
    · obtain rfl : j = 0 := by omega
      rw [wz (by omega) (by omega)]
      have := ih (0 + 1) (by omega)
      rw [wid_succ t 0, if_pos rfl, Int.add_zero] at this
      exact this
include s0 s1
theorem width_ev (t : List Int) (ht : ∀ x ∈ t, 0 ≤ x ∧ x ≤ 1114111) (hn : t.length ≤ 1000) : EvP (fun k => metric_Width.f k t s bo fi [tab0] [tab1]) (· = (wid adv krn t t.length, 0)) := by
  unfold metric_Width.f
  refine EvP.bind (EvP.cst (check_ok bo fi s0 s1) (P := (· = 0)) rfl) (fun e he => ?_)
  subst he
  refine EvP.pos rfl (EvP.bind (checkText_ev t ht hn) (fun e he => ?_))
  subst he
  exact EvP.pos rfl (width_l hadv hkrn ha hk t hn t.length 0 (by omega))
omit s0 s1
/-- Where a line of this width may end. -/
def good (adv : Int → Int) (krn : Int → Int → Int) (mk : Int → Bool) (t : List Int) (w : Int) (j : Nat) : Prop := j ≤ t.length ∧ 0 < j ∧ (j < t.length → mk (rd t (j : Int)) = false) ∧ wid adv krn t j ≤ w
/-- The greatest place up to which the text fits, where none is behind i. -/
def Last (adv : Int → Int) (krn : Int → Int → Int) (mk : Int → Bool) (t : List Int) (w : Int) (r : Int × Int × Int) : Prop := r.2.2 = 0 ∧ ∃ n : Nat, r.1 = (n : Int) ∧ r.2.1 = wid adv krn t n ∧ n ≤ t.length ∧ (n = 0 ∨ good adv krn mk t w n) ∧ ∀ j, n < j → ¬ good adv krn mk t w j
include hmk
theorem fit_l (t : List Int) (w : Int) (hn : t.length ≤ 1000) : ∀ (d i n : Nat), i + d = t.length → n ≤ i → (n = 0 ∨ good adv krn mk t w n) → (∀ j, n < j → j ≤ i → ¬ good adv krn mk t w j) →
    EvP (fun k => metric_Fit.l0 k t w (n : Int) (wid adv krn t n) (wid adv krn t i) t (t.length : Int) (i : Int) [tab0] [tab1] s bo fi) (Last adv krn mk t w) := by
  intro d
  induction d with
  | zero =>
    intro i n hi hni hg hnot
    refine EvP.step (fun k => by simp only [metric_Fit.l0]; rfl) ?_
    refine EvP.neg (by omega) (EvP.ret ⟨rfl, n, rfl, rfl, by omega, hg, fun j hj hgd => hnot j hj (by have := hgd.1; omega) hgd⟩)
  | succ d ih =>
    intro i n hi hni hg hnot
    have hlt : i < t.length := by omega
    have hw := wsucc hlt (by omega)
    have b0 := wid_in ha hk t i
    have b1 := ha (rd t (i : Int))
    have key : EvP (fun k => metric_Fit.j2 k t w (n : Int) (wid adv krn t n) (wid adv krn t (i + 1)) (i : Int) t (t.length : Int) (i : Int) [tab0] [tab1] s bo fi) (Last adv krn mk t w) := by
      have j3 : ∀ m : Bool, (i + 1 < t.length → m = mk (rd t ((i + 1 : Nat) : Int))) → (¬ i + 1 < t.length → m = false) → EvP (fun k => metric_Fit.j3 k t w (n : Int) (wid adv krn t n) (wid adv krn t (i + 1)) (i : Int) t (t.length : Int) (i : Int) m [tab0] [tab1] s bo fi) (Last adv krn mk t w) := by
        intro m hm hm2
        refine EvP.step (fun k => by simp only [metric_Fit.j3]; rfl) ?_
        simp only [hw]
        refine EvP.ite (fun h => ?_) (fun h => EvP.ite (fun h2 => ?_) (fun h2 => ?_))
        · refine ih (i + 1) n (by omega) (by omega) hg (fun j hj hj2 hgd => ?_)
          by_cases hji : j = i + 1
          · subst hji
            by_cases hl : i + 1 < t.length
            · have := hgd.2.2.1 hl
              rw [← hm hl, h] at this
              cases this
            · rw [hm2 hl] at h; cases h
          · exact hnot j hj (by omega) hgd
        · refine ih (i + 1) (i + 1) (by omega) (by omega) (.inr ⟨by omega, by omega, fun hl => ?_, h2⟩) (fun j hj hj2 => by omega)
          rw [← hm hl]
          simpa using h
        · refine ih (i + 1) n (by omega) (by omega) hg (fun j hj hj2 hgd => ?_)
          by_cases hji : j = i + 1
          · subst hji; exact h2 hgd.2.2.2
          · exact hnot j hj (by omega) hgd
      refine EvP.step (fun k => by simp only [metric_Fit.j2]; rfl) ?_
      simp only [hw]
      refine EvP.ite (fun h => EvP.pos (by omega) ?_) (fun h => ?_)
      · refine EvP.bind (EvP.ev (hmk _)) (fun m e => ?_)
        subst e
        exact j3 _ (fun _ => rfl) (fun h' => absurd (by omega) h')
      · exact j3 _ (fun h' => absurd (by omega) h) (fun _ => rfl)
    refine EvP.step (fun k => by simp only [metric_Fit.l0]; rfl) ?_
    refine EvP.pos (by omega) (EvP.pos (by omega) (EvP.pos (by omega) ?_))
    refine EvP.bind (EvP.ev (hadv _)) (fun a e => ?_)
    subst e
    rw [wid_succ t i] at key
    refine EvP.ite (fun h => ?_) (fun h => ?_)
    · have e1 : wrap64 ((i : Int) - 1) = ((i - 1 : Nat) : Int) := by rw [wz (by omega) (by omega)]; omega
      simp only [e1]
      refine EvP.pos (by omega) (EvP.pos (by omega) ?_)
      have b2 := hk (rd t ((i - 1 : Nat) : Int)) (rd t (i : Int))
      refine EvP.bind (EvP.ev (hkrn _ _)) (fun a e => ?_)
      subst e
      rw [wz (n := wid adv krn t i + adv (rd t (i : Int))) (by omega) (by omega), wz (by omega) (by omega)]
      rw [if_neg (by omega)] at key
      exact key
    · obtain rfl : i = 0 := by omega
      rw [wz (by omega) (by omega)]
      rw [if_pos rfl, Int.add_zero] at key
      exact key
include s0 s1
theorem fit_ev (t : List Int) (w : Int) (ht : ∀ x ∈ t, 0 ≤ x ∧ x ≤ 1114111) (hn : t.length ≤ 1000) (w0 : 0 ≤ w) (w1 : w ≤ 300000) : EvP (fun k => metric_Fit.f k t s bo fi w [tab0] [tab1]) (Last adv krn mk t w) := by
  unfold metric_Fit.f
  refine EvP.bind (EvP.cst (check_ok bo fi s0 s1) (P := (· = 0)) rfl) (fun e he => ?_)
  subst he
  refine EvP.pos rfl (EvP.bind (checkText_ev t ht hn) (fun e he => ?_))
  subst he
  refine EvP.pos rfl (EvP.neg (by omega) ?_)
  refine EvP.step (fun k => by simp only [metric_Fit.j0]; rfl) ?_
  refine EvP.neg (by simp; omega) ?_
  exact fit_l hadv hkrn hmk ha hk t w hn t.length 0 0 (by omega) (by omega) (.inl rfl) (fun j h1 h2 => by omega)
omit s0 s1
omit hadv hkrn hmk ha hk
end fit
theorem chars_l (l : List Int) (hl : ∀ x ∈ l, -9223372036854775808 ≤ x ∧ x ≤ 9223372036854775807) (most : Nat) (hm : most ≤ 1000) : ∀ (d i : Nat) (out : List Int), i + d = most → out.length = i → (∀ x ∈ out, 0 ≤ x ∧ x ≤ 1114111) → EvP (fun k => ck_chars.l0 k l (most : Int) out (i : Int)) (fun t => t.length ≤ most ∧ ∀ x ∈ t, 0 ≤ x ∧ x ≤ 1114111) := by
  intro d
  induction d with
  | zero =>
    intro i out hi ho hx
    refine EvP.step (fun k => by simp only [ck_chars.l0]; rfl) ?_
    refine EvP.ite (fun _ => EvP.neg (by omega) (EvP.ret ⟨by omega, hx⟩)) (fun _ => EvP.ret ⟨by omega, hx⟩)
  | succ d ih =>
    intro i out hi ho hx
    refine EvP.step (fun k => by simp only [ck_chars.l0]; rfl) ?_
    refine EvP.ite (fun h => EvP.pos (by omega) (EvP.pos (by omega) ?_)) (fun _ => EvP.ret ⟨by omega, hx⟩)
    have hlt : i < l.length := by omega
    have hw : wrap64 ((i : Int) + 1) = ((i + 1 : Nat) : Int) := by rw [wz (by omega) (by omega)]; omega
    have hb := hl _ (rd_mem hlt)
    refine EvP.bind (within_ev hb (by omega) (by omega) (by omega) (by omega)) (fun c hc => EvP.pos (by omega) ?_)
    simp only [hw]
    refine ih (i + 1) (out ++ [c]) (by omega) (by simp [ho]) (fun x hxm => ?_)
    rcases List.mem_append.1 hxm with h | h
    · exact hx x h
    · rw [List.mem_singleton.1 h]; exact hc
theorem tail_ev {adv : Int → Int} {krn : Int → Int → Int} {mk : Int → Bool} {s : Int} {bo fi : Bool} {t : List Int} {w : Int} {n : Nat} (hmk : ∀ c, Ev (fun k => metric_Mark.f k c [tab0]) (mk c)) (tl : t.length ≤ 60)
    (wide : ∀ (n : Nat), EvP (fun k => metric_Width.f k (t.take n) s bo fi [tab0] [tab1]) (· = (wid adv krn (t.take n) (t.take n).length, 0))) (hnl : n ≤ t.length) (hnot : ∀ j, n < j → ¬ good adv krn mk t w j) :
    EvP (fun k => ck_MetricFitNarrows.l0 k t w (n : Int) ((n + 1 : Nat) : Int) [tab0] [tab1] s bo fi) (· = true) := by
  have fin : ∀ z : Nat, n < z → z ≤ t.length → (z < t.length → mk (rd t (z : Int)) = false) → n < t.length → EvP (fun k => (metric_Width.f k (t.take z) s bo fi [tab0] [tab1]).bind fun bt => some (decide (bt.1 > w))) (· = true) := by
    intro z h1 h2 h3 h4
    have htk : (t.take z).length = z := by rw [List.length_take]; omega
    have wt := wide z
    rw [htk, wid_take t z z (Nat.le_refl _)] at wt
    refine EvP.bind wt (fun q hq => EvP.ret ?_)
    subst hq
    have : ¬ wid adv krn t z ≤ w := fun hle => hnot z h1 ⟨h2, by omega, h3, hle⟩
    simpa using this
  have loop : ∀ (d z : Nat), z + d = t.length + 1 → n < z → (z ≤ t.length ∨ n = t.length) → EvP (fun k => ck_MetricFitNarrows.l0 k t w (n : Int) (z : Int) [tab0] [tab1] s bo fi) (· = true) := by
    intro d
    induction d with
    | zero =>
      intro z h1 h2 h7
      refine EvP.step (fun k => by simp only [ck_MetricFitNarrows.l0]; rfl) ?_
      refine EvP.neg (by omega) (EvP.pos (by omega) (EvP.ret rfl))
    | succ d ih =>
      intro z h1 h2 h7
      have hw := wsucc (show z < t.length + 1 by omega) (by omega)
      refine EvP.step (fun k => by simp only [ck_MetricFitNarrows.l0]; rfl) ?_
      simp only [hw, Int.toNat_natCast]
      refine EvP.ite (fun h => EvP.pos (by omega) ?_) (fun h => ?_)
      · refine EvP.bind (EvP.ev (hmk _)) (fun q e => ?_)
        subst e
        refine EvP.ite (fun hq => ih (z + 1) (by omega) (by omega) (by omega)) (fun hq => EvP.ite (fun _ => EvP.ret rfl) (fun h5 => EvP.pos (by omega) ?_))
        exact fin z h2 (by omega) (fun _ => by simpa using hq) (by omega)
      · refine EvP.ite (fun _ => EvP.ret rfl) (fun h5 => EvP.pos (by omega) (EvP.pos (by omega) ?_))
        exact fin z h2 (by omega) (fun h6 => absurd (by omega) h) (by omega)
  exact loop (t.length - n) (n + 1) (by omega) (by omega) (by omega)
theorem MetricFitNarrows : MetricFitNarrows_Pure := by
  intro l0 x a2 a3 hl hx h2 h3
  have hxb := bounds64 hx.1
  have b2 := bounds64 h2
  have b3 := bounds64 h3
  refine EvP.rounds (g := fun k => ck_MetricFitNarrows.f k l0 x.f0 x.f1 x.f2 a2 a3 [tab0] [tab1]) ?_
  unfold ck_MetricFitNarrows.f
  have hm : EvP (fun k => ck_metrics.f k [tab0] [tab1]) (· = true) := ⟨true, Ev.of (ck_metrics.mono _ _) (k := 60) (by kernel_rfl), rfl⟩
  refine EvP.bind hm (fun m e => ?_)
  subst e
  refine EvP.pos rfl ?_
  refine EvP.bind (P := fun t => t.length ≤ 60 ∧ ∀ x ∈ t, 0 ≤ x ∧ x ≤ 1114111) ?_ (fun t ht => ?_)
  · unfold ck_chars.f
    exact chars_l l0 (fun y hy => bounds64 (hl.1 y hy)) 60 (by omega) 60 0 [] (by omega) rfl (by simp)
  refine EvP.bind (P := fun r => 40 ≤ r.1 ∧ r.1 ≤ 4000) ?_ (fun sz hsz => ?_)
  · unfold ck_look.f
    exact EvP.bind (within_ev hxb (by omega) (by omega) (by omega) (by omega)) (fun r hr => EvP.ret hr)
  obtain ⟨s, bo, fi⟩ := sz
  obtain ⟨s0, s1⟩ := hsz
  simp only at s0 s1 ⊢
  refine EvP.bind (within_ev b2 (by omega) (by omega) (by omega) (by omega)) (fun w hw => ?_)
  refine EvP.bind (within_ev b3 (by omega) (by omega) (by omega) (by omega)) (fun m hm => ?_)
  obtain ⟨em, hem⟩ := em_fn
  obtain ⟨adv, hadv⟩ : ∃ adv : Int → Int, ∀ c, Ev (fun k => metric_advance.f k c s bo fi [tab0] [tab1]) (adv c) ∧ 0 ≤ adv c ∧ adv c ≤ 5000 := ⟨fun c => advOf s bo fi (em c), fun c => by
    obtain ⟨h1, h2, h3⟩ := hem c
    obtain ⟨r, hr, hp⟩ := adv_ev bo fi h1 h2 h3 s0 s1
    rw [hp] at hr
    exact ⟨hr, advOf_in h2 h3 s0 s1⟩⟩
  obtain ⟨krn, hkrn⟩ : ∃ krn : Int → Int → Int, ∀ a b, Ev (fun k => metric_kern.f k a b s bo fi) (krn a b) ∧ -400 ≤ krn a b ∧ krn a b ≤ 0 ∧ (fi = true → krn a b = 0) := ⟨fun a b => (kern_ev a b bo fi s0 s1).choose, fun a b => (kern_ev a b bo fi s0 s1).choose_spec⟩
  obtain ⟨mk, hmk⟩ : ∃ mk : Int → Bool, ∀ c, Ev (fun k => metric_Mark.f k c [tab0]) (mk c) := ⟨fun c => (mark_ev c).choose, fun c => (mark_ev c).choose_spec.1⟩
  have ha := fun c => (hadv c).2
  have hk := fun a b => (⟨(hkrn a b).2.1, (hkrn a b).2.2.1⟩ : _ ∧ _)
  have hadv' := fun c => (hadv c).1
  have hkrn' := fun a b => (hkrn a b).1
  have fitw := fun v h0 h1 => fit_ev (adv := adv) (krn := krn) (mk := mk) hadv' hkrn' hmk ha hk s0 s1 t v ht.2 (by have := ht.1; omega) h0 h1
  have wide := fun (n : Nat) => width_ev (adv := adv) (krn := krn) hadv' hkrn' ha hk s0 s1 (t.take n) (fun y hy => ht.2 y (List.mem_of_mem_take hy)) (by have h1 := ht.1; have h2 : (t.take n).length = min n t.length := List.length_take; omega)
  refine EvP.bind (fitw w hw.1 (by omega)) (fun r hr => ?_)
  rw [wz (n := w + m) (by omega) (by omega)]
  refine EvP.bind (fitw (w + m) (by omega) (by omega)) (fun r' hr' => ?_)
  obtain ⟨n, e1, e2⟩ := r
  obtain ⟨n', e1', e2'⟩ := r'
  obtain ⟨he, n, hn, hwn, hnl, hg, hnot⟩ := hr
  obtain ⟨he', m', hm', _, hml, _, hnot'⟩ := hr'
  simp only at he hn hwn he' hm' ⊢
  subst he he' hn hwn hm'
  have hnm : n ≤ m' := by
    rcases hg with h | h
    · omega
    · by_cases hc : n ≤ m'
      · exact hc
      · exact absurd ⟨h.1, h.2.1, h.2.2.1, by have := h.2.2.2; omega⟩ (hnot' n (by omega))
  have hwle : wid adv krn t n ≤ w := by
    rcases hg with h | h
    · subst h; simp [wid]; omega
    · exact h.2.2.2
  refine EvP.pos rfl (EvP.pos rfl (EvP.neg (by omega) (EvP.neg (by omega) (EvP.neg (by omega) ?_))))
  have htk : (t.take n).length = n := by rw [List.length_take]; omega
  have wn : EvP (fun k => metric_Width.f k (t.take n) s bo fi [tab0] [tab1]) (· = (wid adv krn t n, 0)) := by
    have := wide n
    rw [htk, wid_take t n n (Nat.le_refl _)] at this
    exact this
  refine EvP.step (fun k => by simp only [ck_MetricFitNarrows.j0]; rfl) ?_
  refine EvP.neg (by simp; omega) (EvP.pos (by omega) (EvP.pos (by omega) ?_))
  rw [Int.toNat_natCast]
  refine EvP.bind wn (fun q hq => ?_)
  subst hq
  refine EvP.pos rfl ?_
  refine EvP.step (fun k => by simp only [ck_MetricFitNarrows.j1]; rfl) ?_
  refine EvP.neg (by simp) ?_
  rw [wsucc (show n < t.length + 1 by omega) (by omega)]
  exact tail_ev hmk ht.1 wide hnl hnot

end Go.Proofs.YtohaoaiffneamaaDoor.Pure
