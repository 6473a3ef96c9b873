/- A line must end after each newline that is not the last character, and only there: over plain values. No condition beyond the kinds of the arguments. -/
import Derived.Test.YtohaoaiffneamaaDoorTypBreaksMustBehindNewlines
namespace Go.Proofs.YtohaoaiffneamaaDoor.Pure
open Go.RowKit Go.Proofs.YtohaoaiffneamaaDoor.QBreaks Go.Proofs.YtohaoaiffneamaaDoorW.PrintWords Go.Proofs.YtohaoaiffneamaaDoorW.PrintLast Go.Proofs.YtohaoaiffneamaaDoorW.PrintMore
set_option linter.unusedVariables false
set_option linter.unusedSimpArgs false

/-- From some number of rounds on the answer is there, and it is as told. -/
def EvP {α : Type} (g : Nat → Option α) (P : α → Prop) : Prop := ∃ r, Ev g r ∧ P r
theorem EvP.ret {α : Type} {r : α} {P : α → Prop} (h : P r) : EvP (fun _ => some r) P := ⟨r, Ev.now r, h⟩
theorem EvP.cst {α : Type} {g : Option α} {r : α} {P : α → Prop} (e : g = some r) (h : P r) : EvP (fun _ => g) P := ⟨r, ⟨0, fun _ _ => e⟩, h⟩
theorem EvP.bind {α β : Type} {g : Nat → Option α} {f : Nat → α → Option β} {P : α → Prop} {Q : β → Prop} (h : EvP g P) (k : ∀ a, P a → EvP (fun n => f n a) Q) : EvP (fun n => (g n).bind (f n)) Q := by
  obtain ⟨a, ha, hp⟩ := h
  obtain ⟨r, hr, hq⟩ := k a hp
  exact ⟨r, Ev.bind ha hr, hq⟩
theorem EvP.ite {α : Type} {c : Prop} [Decidable c] {a b : Nat → Option α} {Q : α → Prop} (h : c → EvP a Q) (k : ¬ c → EvP b Q) : EvP (fun n => if c then a n else b n) Q := by
  by_cases hc : c
  · simp only [if_pos hc]; exact h hc
  · simp only [if_neg hc]; exact k hc
theorem EvP.pos {α : Type} {c : Prop} [Decidable c] {a b : Nat → Option α} {Q : α → Prop} (hc : c) (h : EvP a Q) : EvP (fun n => if c then a n else b n) Q := by
  simp only [if_pos hc]; exact h
theorem EvP.neg {α : Type} {c : Prop} [Decidable c] {a b : Nat → Option α} {Q : α → Prop} (hc : ¬ c) (h : EvP b Q) : EvP (fun n => if c then a n else b n) Q := by
  simp only [if_neg hc]; exact h
theorem EvP.step {α : Type} {g f : Nat → Option α} {Q : α → Prop} (h : ∀ k, g (k + 1) = f k) (k : EvP f Q) : EvP g Q := by
  obtain ⟨r, hr, hq⟩ := k
  exact ⟨r, Ev.step h hr, hq⟩
theorem EvP.congr {α : Type} {g f : Nat → Option α} {Q : α → Prop} (h : ∀ k, g k = f k) (k : EvP f Q) : EvP g Q := by
  obtain ⟨r, hr, hq⟩ := k
  exact ⟨r, Ev.congr h hr, hq⟩
theorem EvP.mono {α : Type} {g : Nat → Option α} {P Q : α → Prop} (h : EvP g P) (k : ∀ r, P r → Q r) : EvP g Q := by
  obtain ⟨r, hr, hp⟩ := h
  exact ⟨r, hr, k r hp⟩
theorem EvP.rounds {α : Type} {g : Nat → Option α} {r : α} (h : EvP g (· = r)) : ∃ k, g k = some r := by
  obtain ⟨q, hq, rfl⟩ := h
  exact hq.rounds
theorem EvP.ev {α : Type} {g : Nat → Option α} {r : α} (h : Ev g r) : EvP g (· = r) := ⟨r, h, rfl⟩
/-- What has no rounds, told as what has some. -/
theorem EvP.plain {α : Type} {g : Option α} {P : α → Prop} (h : EvP (fun _ => g) P) : ∃ r, g = some r ∧ P r := by
  obtain ⟨r, ⟨K, hK⟩, hp⟩ := h
  exact ⟨r, hK K (Nat.le_refl _), hp⟩
theorem wz {n : Int} (h : -9223372036854775808 ≤ n) (k : n ≤ 9223372036854775807) : wrap64 n = n := by
  unfold wrap64; omega
theorem bounds64 {n : Int} (h : (Lit.int .i64 n).wf = true) : -9223372036854775808 ≤ n ∧ n ≤ 9223372036854775807 := by
  simp [Lit.wf, IntKind.min, IntKind.max, IntKind.signed, IntKind.bits] at h
  omega

theorem within_ok {x lo hi : Int} (hx : -9223372036854775808 ≤ x ∧ x ≤ 9223372036854775807) (h : lo ≤ hi) (hlo : -4611686018427387904 ≤ lo) (hhi : hi ≤ 4611686018427387904) (hd : hi - lo < 2305843009213693952) :
    ∃ r, ck_within.f x lo hi = some r ∧ lo ≤ r ∧ r ≤ hi := by
  unfold ck_within.f
  rw [wz (n := hi - lo) (by omega) (by omega), wz (n := hi - lo + 1) (by omega) (by omega)]
  obtain ⟨n, hn⟩ : ∃ n, n = hi - lo + 1 := ⟨_, rfl⟩
  rw [← hn, if_neg (by omega)]
  have t1 : -n < Int.tmod x n ∧ Int.tmod x n < n := by
    constructor
    · by_cases h0 : 0 ≤ x
      · have := Int.tmod_nonneg n h0; omega
      · obtain ⟨m, rfl⟩ : ∃ m, x = -m := ⟨-x, by omega⟩
        rw [Int.neg_tmod]
        have := Int.tmod_lt_of_pos m (show 0 < n by omega)
        omega
    · exact Int.tmod_lt_of_pos x (by omega)
  rw [wz (n := Int.tmod x n + n) (by omega) (by omega)]
  have t2 := Int.tmod_nonneg n (show 0 ≤ Int.tmod x n + n by omega)
  have t3 := Int.tmod_lt_of_pos (Int.tmod x n + n) (show 0 < n by omega)
  refine ⟨_, rfl, ?_, ?_⟩
  · rw [wz (by omega) (by omega)]; omega
  · rw [wz (by omega) (by omega)]; omega
theorem within_ev {x lo hi : Int} (hx : -9223372036854775808 ≤ x ∧ x ≤ 9223372036854775807) (h : lo ≤ hi) (hlo : -4611686018427387904 ≤ lo) (hhi : hi ≤ 4611686018427387904) (hd : hi - lo < 2305843009213693952) :
    EvP (fun _ => ck_within.f x lo hi) (fun r => lo ≤ r ∧ r ≤ hi) := by
  obtain ⟨r, e, h⟩ := within_ok hx h hlo hhi hd
  exact EvP.cst e h
theorem rd_nat (l : List Int) (i : Nat) : rd l (i : Int) = l[i]?.getD 0 := by unfold rd; rw [Int.toNat_natCast, List.getD_eq_getElem?_getD]
theorem rd_mem {l : List Int} {i : Nat} (h : i < l.length) : rd l (i : Int) ∈ l := by
  rw [rd_nat, List.getElem?_eq_getElem h]; exact List.getElem_mem _
theorem wsucc {j n : Nat} (h : j < n) (hn : n ≤ 9223372036854775807) : wrap64 ((j : Int) + 1) = ((j + 1 : Nat) : Int) := by rw [wz (by omega) (by omega)]; omega

def ins (l : List S98) (c : Int) : Int × Bool := match l.find? (fun s => decide (s.f0 ≤ c) && decide (c ≤ s.f1)) with
  | some s => (s.f2, true)
  | none => (0, false)
theorem within_l (c : Int) (l : List S98) (hl : l.length ≤ 1000) : ∀ (d j : Nat), j + d = l.length → EvP (fun k => metric_within.l0 k c l (l.length : Int) (j : Int)) (fun _ => True) := by
  intro d
  induction d with
  | zero =>
    intro j hj
    refine EvP.step (fun k => by simp only [metric_within.l0]; rfl) ?_
    exact EvP.neg (by omega) (EvP.ret trivial)
  | succ d ih =>
    intro j hj
    have hlt : j < l.length := by omega
    have hw := wsucc hlt (by omega)
    have ih' := ih (j + 1) (by omega)
    refine EvP.step (fun k => by simp only [metric_within.l0]; rfl) ?_
    refine EvP.pos (by omega) (EvP.pos (by omega) (EvP.pos (by omega) ?_))
    simp only [hw]
    exact EvP.ite (fun h1 => EvP.ite (fun h2 => EvP.ret trivial) (fun h2 => ih')) (fun h1 => ih')
theorem mark_ev (c : Int) : EvP (fun k => metric_Mark.f k c [tab0]) (fun _ => True) := by
  unfold metric_Mark.f
  exact EvP.pos (by decide) (EvP.bind (within_l c tab0 (by decide) tab0.length 0 (by omega)) (fun r _ => EvP.ret trivial))
/-- The class of a character: 1 is that of the newline alone. -/
abbrev clsP (c : Int) (r : Int) : Prop := 0 ≤ r ∧ r ≤ 11 ∧ (r = 1 ↔ c = 10)
theorem check_l (t : List Int) (ht : ∀ x ∈ t, 0 ≤ x ∧ x ≤ 1114111) (hn : t.length ≤ 1000) : ∀ (d j : Nat), j + d = t.length → EvP (fun k => breaks_check.l0 k t (t.length : Int) (j : Int)) (· = 0) := by
  intro d
  induction d with
  | zero =>
    intro j hj
    refine EvP.step (fun k => by simp only [breaks_check.l0]; rfl) ?_
    exact EvP.neg (by omega) (EvP.ret rfl)
  | succ d ih =>
    intro j hj
    have hlt : j < t.length := by omega
    have hx := ht _ (rd_mem hlt)
    have hw := wsucc hlt (by omega)
    refine EvP.step (fun k => by simp only [breaks_check.l0]; rfl) ?_
    refine EvP.pos (by omega) (EvP.pos (by omega) (EvP.pos (by omega) (EvP.neg (by omega) (EvP.neg (by omega) ?_))))
    simp only [hw]
    exact ih (j + 1) (by omega)
theorem check_ev (t : List Int) (ht : ∀ x ∈ t, 0 ≤ x ∧ x ≤ 1114111) (hn : t.length ≤ 1000) : EvP (fun k => breaks_check.f k t) (· = 0) := by
  unfold breaks_check.f
  exact check_l t ht hn t.length 0 (by omega)
/-- What 'step' leaves: the class of the last character is that of the newline just where that character is one. -/
theorem step_j0 (x a b n f : Int) (any j : Bool) (c : Int) (hx : x = 1 ↔ c = 10) (hj : j = (c == 8205)) : EvP (fun k => breaks_scan_step.j0 k x a b n f any j) (fun r => (r.1 = 1 ↔ c = 10) ∧ r.2.2.2.2.1 = true ∧ r.2.2.2.2.2 = (c == 8205)) := by
  refine EvP.step (fun k => by simp only [breaks_scan_step.j0]; rfl) ?_
  exact EvP.ite (fun _ => EvP.ite (fun _ => EvP.ret ⟨hx, rfl, hj⟩) (fun _ => EvP.ret ⟨hx, rfl, hj⟩)) (fun _ => EvP.ite (fun _ => EvP.ret ⟨hx, rfl, hj⟩) (fun _ => EvP.ret ⟨hx, rfl, hj⟩))
/-- What 'may' tells: a line must end just behind a newline; no line ends ahead of a mark, or behind a joiner, but there. -/
abbrev mayP (a b n f : Int) (any j : Bool) (m : Int) (r : Int × Bool × Int × Int × Int × Int × Bool × Bool) : Prop :=
  r.2.2 = (a, b, n, f, any, j) ∧ (a = 1 → r.1 = 2 ∧ r.2.1 = true) ∧ (a ≠ 1 → r.1 ≠ 2 ∧ (r.2.1 = true → j = false ∧ m ≠ 10))
theorem may_j1 (m a b n f : Int) (any j y : Bool) (ha : a ≠ 1) (hm : j = false ∧ m ≠ 10) : EvP (fun k => breaks_scan_may.j1 k m y a b n f any j) (mayP a b n f any j m) := by
  refine EvP.step (fun k => by simp only [breaks_scan_may.j1]; rfl) ?_
  repeat' first | exact EvP.ret ⟨rfl, fun h => absurd h ha, fun _ => ⟨by simp, fun _ => hm⟩⟩ | refine EvP.ite (fun _ => ?_) (fun _ => ?_)
theorem may_j0 (m a b n f : Int) (any j y : Bool) (ha : a ≠ 1) (hm : y = false → j = false ∧ m ≠ 10) : EvP (fun k => breaks_scan_may.j0 k m y a b n f any j) (mayP a b n f any j m) := by
  refine EvP.step (fun k => by simp only [breaks_scan_may.j0]; rfl) ?_
  refine EvP.ite (fun _ => EvP.ret ⟨rfl, fun h => absurd h ha, fun _ => ⟨by simp, fun h => by cases h⟩⟩) (fun hy => ?_)
  have hm := hm (by simpa using hy)
  repeat' first | exact EvP.ret ⟨rfl, fun h => absurd h ha, fun _ => ⟨by simp, fun _ => hm⟩⟩ | exact may_j1 _ _ _ _ _ _ _ _ ha hm | refine EvP.ite (fun _ => ?_) (fun _ => ?_)
/-- The places of a text up to the character i. -/
def Good (cls : Int → Int) (t : List Int) (i : Nat) (out : List S41) : Prop :=
  (∀ x ∈ out, ∃ j : Nat, x.f0 = (j : Int) ∧ 0 < j ∧ j < i ∧ (x.f1 = 2 ↔ rd t ((j - 1 : Nat) : Int) = 10) ∧ (rd t ((j - 1 : Nat) : Int) ≠ 10 → rd t ((j - 1 : Nat) : Int) ≠ 8205 ∧ cls (rd t (j : Int)) ≠ 10)) ∧
  (∀ j : Nat, 0 < j → j < i → rd t ((j - 1 : Nat) : Int) = 10 → (⟨(j : Int), 2⟩ : S41) ∈ out) ∧
  (∀ p : List S41, ∀ x y : S41, ∀ q : List S41, out = p ++ x :: y :: q → x.f0 < y.f0) ∧ out.length ≤ i ∧ (∀ x, out.getLast? = some x → x.f0 < (i : Int))
theorem Good.skip {cls : Int → Int} {t : List Int} {i : Nat} {out : List S41} (h : Good cls t i out) (hn : 0 < i → rd t ((i - 1 : Nat) : Int) ≠ 10) : Good cls t (i + 1) out := by
  obtain ⟨h1, h2, h3, h4, h5⟩ := h
  refine ⟨fun x hx => ?_, fun j hj hji hr => ?_, h3, by omega, fun x hx => by have := h5 x hx; omega⟩
  · obtain ⟨j, e, a, b, c, d⟩ := h1 x hx
    exact ⟨j, e, a, by omega, c, d⟩
  · by_cases e : j = i
    · subst e; exact absurd hr (hn hj)
    · exact h2 j hj (by omega) hr
theorem Good.add {cls : Int → Int} {t : List Int} {i : Nat} {out : List S41} {kind : Int} (h : Good cls t i out) (hi : 0 < i) (hk : kind = 2 ↔ rd t ((i - 1 : Nat) : Int) = 10) (hd : rd t ((i - 1 : Nat) : Int) ≠ 10 → rd t ((i - 1 : Nat) : Int) ≠ 8205 ∧ cls (rd t (i : Int)) ≠ 10) : Good cls t (i + 1) (out ++ [⟨(i : Int), kind⟩]) := by
  obtain ⟨h1, h2, h3, h4, h5⟩ := h
  refine ⟨fun x hx => ?_, fun j hj hji hr => ?_, fun p x y q e => ?_, by simp; omega, fun x hx => ?_⟩
  · rcases List.mem_append.1 hx with hx | hx
    · obtain ⟨j, e, a, b, c, d⟩ := h1 x hx
      exact ⟨j, e, a, by omega, c, d⟩
    · rw [List.mem_singleton.1 hx]
      exact ⟨i, rfl, hi, by omega, hk, hd⟩
  · by_cases e : j = i
    · subst e; rw [hk.2 hr]; simp
    · exact List.mem_append_left _ (h2 j hj (by omega) hr)
  · rcases List.eq_nil_or_concat q with rfl | ⟨q', z, rfl⟩
    · have e' : out ++ [⟨(i : Int), kind⟩] = (p ++ [x]) ++ [y] := by rw [e]; simp
      obtain ⟨e1, e2⟩ := List.append_inj' e' rfl
      injection e2 with e2 _
      have : out.getLast? = some x := by rw [e1]; simp
      rw [← e2]
      exact h5 x this
    · have e' : out ++ [⟨(i : Int), kind⟩] = (p ++ x :: y :: q') ++ [z] := by rw [e]; simp
      obtain ⟨e1, _⟩ := List.append_inj' e' rfl
      exact h3 p x y q' e1
  · simp at hx
    rw [← hx]
    show (i : Int) < _
    omega
theorem may_ev {cls : Int → Int} (hcls : ∀ c, Ev (fun k => breaks_class.f k c [tab0]) (cls c)) (a b n f : Int) (any j : Bool) (c : Int) : EvP (fun k => breaks_scan_may.f k a b n f any j c [tab0]) (mayP a b n f any j (cls c)) := by
  unfold breaks_scan_may.f
  refine EvP.bind (EvP.ev (hcls c)) (fun t ht => ?_)
  subst ht
  refine EvP.ite (fun h => EvP.ret ⟨rfl, fun _ => ⟨rfl, rfl⟩, fun h' => absurd h h'⟩) (fun ha => ?_)
  refine EvP.ite (fun h => may_j0 _ _ _ _ _ _ _ _ ha (fun h => by cases h)) (fun hj => ?_)
  refine EvP.ite (fun h => may_j0 _ _ _ _ _ _ _ _ ha (fun h => by cases h)) (fun h1 => ?_)
  refine EvP.ite (fun h => may_j0 _ _ _ _ _ _ _ _ ha (fun h => by cases h)) (fun h2 => ?_)
  refine EvP.ite (fun h => may_j0 _ _ _ _ _ _ _ _ ha (fun h => by cases h)) (fun h3 => ?_)
  exact may_j0 _ _ _ _ _ _ _ _ ha (fun _ => ⟨by simpa using hj, h3⟩)
section places
variable {cls : Int → Int} (hcls : ∀ c, Ev (fun k => breaks_class.f k c [tab0]) (cls c)) (hcl : ∀ c, clsP c (cls c))
include hcls hcl
theorem step_ev (a b n f : Int) (any j : Bool) (c : Int) : EvP (fun k => breaks_scan_step.f k a b n f any j c [tab0]) (fun r => (r.1 = 1 ↔ c = 10) ∧ r.2.2.2.2.1 = true ∧ r.2.2.2.2.2 = (c == 8205)) := by
  unfold breaks_scan_step.f
  refine EvP.bind (EvP.ev (hcls c)) (fun t ht => ?_)
  subst ht
  have h1 := (hcl c).2.2
  refine EvP.ite (fun h => ?_) (fun h => step_j0 _ _ _ _ _ _ _ _ h1 rfl)
  have hc : c ≠ 10 := fun e => by have := h1.2 e; omega
  refine EvP.ite (fun ha => EvP.ite (fun hb => step_j0 _ _ _ _ _ _ _ _ (by omega) rfl) (fun hb => EvP.ret ⟨by simp [hb, hc], ha, rfl⟩)) (fun ha => step_j0 _ _ _ _ _ _ _ _ (by omega) rfl)
theorem places_l (t : List Int) (hn : t.length ≤ 1000) : ∀ (d i : Nat) (out : List S41) (a b n f : Int) (any j : Bool), i + d = t.length → Good cls t i out → (0 < i → (a = 1 ↔ rd t ((i - 1 : Nat) : Int) = 10) ∧ j = (rd t ((i - 1 : Nat) : Int) == 8205)) →
    EvP (fun k => breaks_Places.l0 k out t (t.length : Int) (i : Int) [tab0] a b n f any j) (fun r => r.2 = 0 ∧ Good cls t t.length r.1) := by
  intro d
  induction d with
  | zero =>
    intro i out a b n f any j hi hg hs
    refine EvP.step (fun k => by simp only [breaks_Places.l0]; rfl) ?_
    obtain rfl : i = t.length := by omega
    exact EvP.neg (by omega) (EvP.ret ⟨rfl, hg⟩)
  | succ d ih =>
    intro i out a b n f any j hi hg hs
    have hlt : i < t.length := by omega
    have hw := wsucc hlt (by omega)
    have e1 : i + 1 - 1 = i := by omega
    refine EvP.step (fun k => by simp only [breaks_Places.l0]; rfl) ?_
    refine EvP.pos (by omega) (EvP.pos (by omega) (EvP.pos (by omega) ?_))
    simp only [hw]
    refine EvP.ite (fun h0 => ?_) (fun h0 => ?_)
    · obtain ⟨hs1, hs2⟩ := hs (by omega)
      refine EvP.bind (may_ev hcls a b n f any j _) (fun r hr => ?_)
      obtain ⟨kind, is, a', b', n', f', any', j'⟩ := r
      obtain ⟨he, hr1, hr2⟩ := hr
      simp only at he hr1 hr2 ⊢
      refine EvP.ite (fun his => EvP.pos (by have := hg.2.2.2.1; omega) ?_) (fun his => ?_)
      · refine EvP.bind (step_ev hcls hcl _ _ _ _ _ _ _) (fun s hst => ?_)
        refine ih (i + 1) _ _ _ _ _ _ _ (by omega) (hg.add (by omega) ?_ ?_) (fun _ => by rw [e1]; exact ⟨hst.1, hst.2.2⟩)
        · rw [← hs1]
          constructor
          · intro hk
            by_cases ha : a = 1
            · exact ha
            · exact absurd hk (hr2 ha).1
          · intro ha; exact (hr1 ha).1
        · intro hne
          have ha : a ≠ 1 := fun h => hne (hs1.1 h)
          have h3 := (hr2 ha).2 his
          exact ⟨by have := h3.1; rw [hs2] at this; simpa using this, h3.2⟩
      · refine EvP.bind (step_ev hcls hcl _ _ _ _ _ _ _) (fun s hst => ?_)
        refine ih (i + 1) _ _ _ _ _ _ _ (by omega) (hg.skip (fun _ hr => ?_)) (fun _ => by rw [e1]; exact ⟨hst.1, hst.2.2⟩)
        exact his (hr1 (hs1.2 hr)).2
    · refine EvP.bind (step_ev hcls hcl _ _ _ _ _ _ _) (fun s hst => ?_)
      refine ih (i + 1) _ _ _ _ _ _ _ (by omega) (hg.skip (fun h => by omega)) (fun _ => by rw [e1]; exact ⟨hst.1, hst.2.2⟩)
theorem places_ev (t : List Int) (ht : ∀ x ∈ t, 0 ≤ x ∧ x ≤ 1114111) (hn : t.length ≤ 1000) : EvP (fun k => breaks_Places.f k t [tab0]) (fun r => r.2 = 0 ∧ Good cls t t.length r.1) := by
  unfold breaks_Places.f
  refine EvP.bind (check_ev t ht hn) (fun e he => ?_)
  subst he
  refine EvP.pos rfl (places_l hcls hcl t hn t.length 0 [] 0 1 0 0 false false (by omega) ⟨by simp, fun j h1 h2 => by omega, fun p x y q e => ?_, by simp, by simp⟩ (fun h => by omega))
  have := congrArg List.length e
  simp at this
end places

theorem chars_l (l : List Int) (hl : ∀ x ∈ l, -9223372036854775808 ≤ x ∧ x ≤ 9223372036854775807) (most : Nat) (hm : most ≤ 1000) : ∀ (d i : Nat) (out : List Int), i + d = most → out.length = i → (∀ x ∈ out, 0 ≤ x ∧ x ≤ 1114111) → EvP (fun k => ck_chars.l0 k l (most : Int) out (i : Int)) (fun t => t.length ≤ most ∧ ∀ x ∈ t, 0 ≤ x ∧ x ≤ 1114111) := by
  intro d
  induction d with
  | zero =>
    intro i out hi ho hx
    refine EvP.step (fun k => by simp only [ck_chars.l0]; rfl) ?_
    refine EvP.ite (fun _ => EvP.neg (by omega) (EvP.ret ⟨by omega, hx⟩)) (fun _ => EvP.ret ⟨by omega, hx⟩)
  | succ d ih =>
    intro i out hi ho hx
    refine EvP.step (fun k => by simp only [ck_chars.l0]; rfl) ?_
    refine EvP.ite (fun h => EvP.pos (by omega) (EvP.pos (by omega) ?_)) (fun _ => EvP.ret ⟨by omega, hx⟩)
    have hlt : i < l.length := by omega
    have hw : wrap64 ((i : Int) + 1) = ((i + 1 : Nat) : Int) := by rw [wz (by omega) (by omega)]; omega
    have hb := hl _ (rd_mem hlt)
    refine EvP.bind (within_ev hb (by omega) (by omega) (by omega) (by omega)) (fun c hc => EvP.pos (by omega) ?_)
    simp only [hw]
    refine ih (i + 1) (out ++ [c]) (by omega) (by simp [ho]) (fun x hxm => ?_)
    rcases List.mem_append.1 hxm with h | h
    · exact hx x h
    · rw [List.mem_singleton.1 h]; exact hc

theorem class_ev (c : Int) : EvP (fun k => breaks_class.f k c [tab0]) (clsP c) := by
  unfold breaks_class.f
  refine EvP.ite (fun h => EvP.ret ⟨by decide, by decide, by simpa using h⟩) (fun h => ?_)
  have hc : c ≠ 10 := by simpa using h
  repeat' first
    | exact EvP.ret ⟨by decide, by decide, by simp [hc]⟩
    | exact EvP.bind (mark_ev c) (fun t _ => EvP.ret (by cases t <;> exact ⟨by decide, by decide, by simp [hc]⟩))
    | refine EvP.ite (fun _ => ?_) (fun _ => ?_)
theorem cls_fn : ∃ cls : Int → Int, ∀ c, Ev (fun k => breaks_class.f k c [tab0]) (cls c) ∧ clsP c (cls c) := ⟨fun c => (class_ev c).choose, fun c => (class_ev c).choose_spec⟩

theorem contains_l (a b : Int) (l : List S41) (hl : l.length ≤ 1000) : ∀ (d j : Nat), j + d = l.length → EvP (fun k => api_Break_33.l0 k l (l.length : Int) (j : Int) a b) (fun r => (0 ≤ r ↔ (⟨a, b⟩ : S41) ∈ l.drop j)) := by
  intro d
  induction d with
  | zero =>
    intro j hj
    refine EvP.step (fun k => by simp only [api_Break_33.l0]; rfl) ?_
    refine EvP.neg (by omega) (EvP.ret ?_)
    rw [List.drop_of_length_le (by omega)]; simp
  | succ d ih =>
    intro j hj
    have hlt : j < l.length := by omega
    have hd : l.drop j = l[j] :: l.drop (j + 1) := List.drop_eq_getElem_cons hlt
    have hrd : rd_T41 l (j : Int) = l[j] := by unfold rd_T41; rw [Int.toNat_natCast, List.getD_eq_getElem?_getD, List.getElem?_eq_getElem hlt]; rfl
    have hw := wsucc hlt (by omega)
    refine EvP.step (fun k => by simp only [api_Break_33.l0]; rfl) ?_
    refine EvP.pos (by omega) (EvP.pos (by omega) (EvP.pos (by omega) ?_))
    simp only [hrd, hw]
    rw [hd]
    generalize l[j] = x
    obtain ⟨x0, x1⟩ := x
    refine EvP.ite (fun h => EvP.ret ?_) (fun h => (ih (j + 1) (by omega)).mono (fun r hr => ?_))
    · simp at h
      obtain ⟨rfl, rfl⟩ := h
      simp
    · rw [hr, List.mem_cons]
      constructor
      · exact fun h => .inr h
      · intro h2
        rcases h2 with h2 | h2
        · injection h2 with e1 e2
          subst e1 e2
          simp at h
        · exact h2
theorem contains_ev (a b : Int) (l : List S41) (hl : l.length ≤ 1000) : EvP (fun k => api_Break_15.f k l a b) (fun r => (r = true ↔ (⟨a, b⟩ : S41) ∈ l)) := by
  unfold api_Break_15.f api_Break_33.f
  refine EvP.bind (contains_l a b l hl l.length 0 (by omega)) (fun r hr => EvP.ret ?_)
  rw [List.drop_zero] at hr
  rw [← hr]; simp
theorem rd_set10 {l : List Int} {i : Nat} (j : Nat) : rd (l.set i 10) (j : Int) = if j = i ∧ i < l.length then 10 else rd l (j : Int) := by
  rw [rd_nat, rd_nat, List.getElem?_set]
  by_cases h : i = j
  · subst h
    by_cases h2 : i < l.length
    · rw [if_pos rfl, if_pos h2, if_pos ⟨rfl, h2⟩]; rfl
    · rw [if_pos rfl, if_neg h2, if_neg (fun h => h2 h.2), List.getElem?_eq_none (by omega)]
  · rw [if_neg h, if_neg (fun h' => h h'.1.symm)]
theorem last_l {cls : Int → Int} (t : List Int) (l : List S41) (hg : Good cls t t.length l) (hn : t.length ≤ 1000) : ∀ (d i : Nat), i + d = t.length + 1 → 0 < i → EvP (fun k => ck_BreaksMustBehindNewlines.l1 k t l (i : Int)) (· = true) := by
  intro d
  induction d with
  | zero =>
    intro i hi h0
    refine EvP.step (fun k => by simp only [ck_BreaksMustBehindNewlines.l1]; rfl) ?_
    exact EvP.neg (by omega) (EvP.ret rfl)
  | succ d ih =>
    intro i hi h0
    have hw := wsucc (show i < t.length + 1 by omega) (by omega)
    have e1 : wrap64 ((i : Int) - 1) = ((i - 1 : Nat) : Int) := by rw [wz (by omega) (by omega)]; omega
    refine EvP.step (fun k => by simp only [ck_BreaksMustBehindNewlines.l1]; rfl) ?_
    simp only [hw, e1]
    refine EvP.ite (fun h => EvP.pos (by omega) (EvP.pos (by omega) ?_)) (fun _ => EvP.ret rfl)
    have hlen := hg.2.2.2.1
    refine EvP.bind (contains_ev (i : Int) 2 l (by omega)) (fun r hr => ?_)
    have hiff : (rd t ((i - 1 : Nat) : Int) = 10) ↔ r = true := by
      rw [hr]
      constructor
      · exact fun h10 => hg.2.1 i h0 (by omega) h10
      · intro hm
        obtain ⟨j, e, _, _, c, _⟩ := hg.1 _ hm
        obtain rfl : i = j := by simp only at e; omega
        exact c.1 rfl
    refine EvP.neg ?_ (ih (i + 1) (by omega) (by omega))
    cases r with
    | true => simp [hiff.2 rfl]
    | false =>
      have : rd t ((i - 1 : Nat) : Int) ≠ 10 := fun h => by have := hiff.1 h; cases this
      simp [this]
section law
variable {cls : Int → Int} (hcls : ∀ c, Ev (fun k => breaks_class.f k c [tab0]) (cls c)) (hcl : ∀ c, clsP c (cls c))
include hcls hcl
theorem set_l (m : Int) (hm : -9223372036854775808 ≤ m ∧ m ≤ 9223372036854775807) (n : Nat) (hn : n ≤ 1000) : ∀ (d i : Nat) (t : List Int), i + d = n → t.length = n → (∀ x ∈ t, 0 ≤ x ∧ x ≤ 1114111) → EvP (fun k => ck_BreaksMustBehindNewlines.l0 k t m (n : Int) (i : Int) [tab0]) (· = true) := by
  intro d
  induction d with
  | zero =>
    intro i t hi htn ht
    refine EvP.step (fun k => by simp only [ck_BreaksMustBehindNewlines.l0]; rfl) ?_
    refine EvP.neg (by omega) (EvP.bind (places_ev hcls hcl t ht (by omega)) (fun r hr => EvP.pos hr.1 ?_))
    exact last_l t r.1 hr.2 (by omega) t.length 1 (by omega) (by omega)
  | succ d ih =>
    intro i t hi htn ht
    have hw := wsucc (show i < n by omega) (by omega)
    refine EvP.step (fun k => by simp only [ck_BreaksMustBehindNewlines.l0]; rfl) ?_
    refine EvP.pos (by omega) (EvP.bind (within_ev hm (by omega) (by omega) (by omega) (by omega)) (fun r _ => ?_))
    simp only [hw, Int.toNat_natCast]
    refine EvP.ite (fun _ => EvP.pos (by omega) (EvP.pos (by omega) ?_)) (fun _ => ih (i + 1) t (by omega) htn ht)
    refine ih (i + 1) (t.set i 10) (by omega) (by simpa using htn) (fun x hx => ?_)
    rcases List.mem_or_eq_of_mem_set hx with h | h
    · exact ht x h
    · rw [h]; exact ⟨by decide, by decide⟩
end law
theorem BreaksMustBehindNewlines : BreaksMustBehindNewlines_Pure := by
  intro l0 a1 hl h1
  have b1 := bounds64 h1
  have hl' : ∀ x ∈ l0, -9223372036854775808 ≤ x ∧ x ≤ 9223372036854775807 := fun y hy => bounds64 (hl.1 y hy)
  clear hl h1
  refine EvP.rounds (g := fun k => ck_BreaksMustBehindNewlines.f k l0 a1 [tab0]) ?_
  unfold ck_BreaksMustBehindNewlines.f
  have hm : EvP (fun k => ck_placed.f k [tab0]) (· = true) := ⟨true, Ev.of (ck_placed.mono _) (k := 60) (by kernel_rfl), rfl⟩
  refine EvP.bind hm (fun m e => ?_)
  subst e
  refine EvP.pos rfl ?_
  refine EvP.bind (P := fun t => t.length ≤ 60 ∧ ∀ x ∈ t, 0 ≤ x ∧ x ≤ 1114111) ?_ (fun t ht => ?_)
  · unfold ck_chars.f
    exact chars_l l0 hl' 60 (by omega) 60 0 [] (by omega) rfl (by simp)
  obtain ⟨cls, hcls⟩ := cls_fn
  exact set_l (fun c => (hcls c).1) (fun c => (hcls c).2) a1 b1 t.length (by have := ht.1; omega) t.length 0 t (by omega) rfl ht.2

end Go.Proofs.YtohaoaiffneamaaDoor.Pure
