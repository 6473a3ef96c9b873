import Derived.Test.YtobfnncpjkeloaaEv5c
namespace Go.Proofs.Ytobfnncpjkeloaa.Ev
open Go Go.RowKit Go.Proofs.YtobfnncpjkeloaaW.PrintLast
/-! #### names that turn; own rows that are only read from now on -/
def rnS (x y : Nat) : PS → PS
  | .ptr o off => .ptr (if o = x then y else o) off
  | .os o => .os (if o = x then y else o)
  | .rp o e i off => .rp (if o = x then y else o) e i off
  | .fi o i => .fi (if o = x then y else o) i
  | .fp o i e k off => .fp (if o = x then y else o) i e k off
  | s => s
def rnV1 (x y : Nat) : PV → PV
  | .one s => .one (rnS x y s)
  | .agg l => .agg (l.map (rnS x y))
  | .fn f l => .fn f (l.map (rnS x y))
  | v => v
def rnV (x y : Nat) : PV → PV
  | .one s => .one (rnS x y s)
  | .agg l => .agg (l.map (rnS x y))
  | .fn f l => .fn f (l.map (rnS x y))
  | .tup l => .tup (l.map (rnV1 x y))
section turn
variable {nb nb1 nb2 : Nat} {w w' w0 : World} {F F' F0 : Nat → Prop} {β β' β0 : Blocks} {H H' H0 H2 : Heap} {x y : Nat} {ok ok' : Nat → Bool}
theorem okV_and {p q : Nat → Bool} {v : PV} (h1 : okV p v = true) (h2 : okV q v = true) : okV (fun x => p x && q x) v = true := by
  have v2 : ∀ s, okV1 p s = true → okV1 q s = true → okV1 (fun x => p x && q x) s = true := fun s a b => by
    cases s <;> simp only [okV1, List.all_eq_true] at a b ⊢ <;> first | exact okS_and a b | exact fun s hs => okS_and (a s hs) (b s hs) | cases a
  cases v <;> simp only [okV, List.all_eq_true] at h1 h2 ⊢ <;> first | exact okS_and h1 h2 | exact fun s hs => okS_and (h1 s hs) (h2 s hs) | exact fun s hs => v2 s (h1 s hs) (h2 s hs)
theorem Inv.less {nb : Nat} {w : World} {F : Nat → Prop} {β : Blocks} {H H' : Heap} (h : Inv nb w F β H') (hs : ∀ x, x ∈ H → x ∈ H') : Inv nb w F β H := ⟨fun o l l' h1 h2 => h.uniq o l l' (hs _ h1) (hs _ h2), fun o l h1 => h.obj o l (hs _ h1), h.apart, h.inj, h.lt, h.ltβ⟩
theorem Run.less {ok : Nat → Bool} {w' : World} {F' : Nat → Prop} {β' : Blocks} {H' H'' : Heap} (h : Run ok w F β H w' F' β' H') (hs : ∀ x, x ∈ H'' → x ∈ H') : Run ok w F β H w' F' β' H'' := ⟨h.step, h.frame, fun o l u b h1 => h.olds o l u b (hs _ h1), h.fresh⟩
theorem rnS_ok (hm : ∀ z, ok z = true → β' (if z = x then y else z) = β z ∧ ok' (if z = x then y else z) = true) {s : PS} {u : Value} (r : RS w F β s u) (hs : okS ok s = true) : RS w F β' (rnS x y s) u ∧ okS ok' (rnS x y s) = true := by
  cases s <;> first
    | exact ⟨r, rfl⟩
    | (obtain ⟨b, h1, rfl⟩ := r; exact ⟨⟨b, (hm _ hs).1.trans h1, rfl⟩, (hm _ hs).2⟩)
    | exact ⟨⟨(hm _ hs).1.trans r.1, r.2⟩, (hm _ hs).2⟩
    | (obtain ⟨b, n, c, h1, rfl⟩ := r; exact ⟨⟨b, n, c, (hm _ hs).1.trans h1, rfl⟩, (hm _ hs).2⟩)
    | (obtain ⟨l, h1, h2, h3⟩ := r; exact ⟨⟨l, (hm _ hs).1.trans h1, h2, h3⟩, (hm _ hs).2⟩)
    | (obtain ⟨l, b, n, c, h1, h2, rfl⟩ := r; exact ⟨⟨l, b, n, c, (hm _ hs).1.trans h1, h2, rfl⟩, (hm _ hs).2⟩)
theorem rnL_ok (hm : ∀ z, ok z = true → β' (if z = x then y else z) = β z ∧ ok' (if z = x then y else z) = true) {l : List PS} {m : List Value} (r : All2 (RS w F β) l m) (hs : l.all (okS ok) = true) : All2 (RS w F β') (l.map (rnS x y)) m ∧ (l.map (rnS x y)).all (okS ok') = true := by
  induction r with
  | nil => exact ⟨.nil, rfl⟩
  | cons h1 _ ih =>
    rw [List.all_cons, Bool.and_eq_true] at hs
    obtain ⟨h2, h3⟩ := rnS_ok hm h1 hs.1
    obtain ⟨h4, h5⟩ := ih hs.2
    exact ⟨.cons h2 h4, by rw [List.map_cons, List.all_cons, h3, h5]; rfl⟩
theorem rnV1_ok (hm : ∀ z, ok z = true → β' (if z = x then y else z) = β z ∧ ok' (if z = x then y else z) = true) {s : PV} {u : Value} (r : RV1 w F β s u) (hs : okV1 ok s = true) : RV1 w F β' (rnV1 x y s) u ∧ okV1 ok' (rnV1 x y s) = true := by
  cases s with
  | one s => exact rnS_ok hm r hs
  | agg l => obtain ⟨m, rfl, h1⟩ := r; exact ⟨⟨m, rfl, (rnL_ok hm h1 hs).1⟩, (rnL_ok hm h1 hs).2⟩
  | fn f l => obtain ⟨m, rfl, h1⟩ := r; exact ⟨⟨m, rfl, (rnL_ok hm h1 hs).1⟩, (rnL_ok hm h1 hs).2⟩
  | tup l => exact r.elim
theorem rnV_ok (hm : ∀ z, ok z = true → β' (if z = x then y else z) = β z ∧ ok' (if z = x then y else z) = true) {s : PV} {u : Value} (r : RV w F β s u) (hs : okV ok s = true) : RV w F β' (rnV x y s) u ∧ okV ok' (rnV x y s) = true := by
  cases s with
  | one s => exact rnS_ok hm r hs
  | agg l => obtain ⟨m, rfl, h1⟩ := r; exact ⟨⟨m, rfl, (rnL_ok hm h1 hs).1⟩, (rnL_ok hm h1 hs).2⟩
  | fn f l => obtain ⟨m, rfl, h1⟩ := r; exact ⟨⟨m, rfl, (rnL_ok hm h1 hs).1⟩, (rnL_ok hm h1 hs).2⟩
  | tup l =>
    obtain ⟨m, rfl, h1⟩ := r
    have hs' : l.all (okV1 ok) = true := hs
    have key : All2 (RV1 w F β') (l.map (rnV1 x y)) m ∧ (l.map (rnV1 x y)).all (okV1 ok') = true := by
      clear hs
      induction h1 with
      | nil => exact ⟨.nil, rfl⟩
      | cons h1 _ ih =>
        rw [List.all_cons, Bool.and_eq_true] at hs'
        obtain ⟨h2, h3⟩ := rnV1_ok hm h1 hs'.1
        obtain ⟨h4, h5⟩ := ih hs'.2
        exact ⟨.cons h2 h4, by rw [List.map_cons, List.all_cons, h3, h5]; rfl⟩
    exact ⟨⟨m, rfl, key.1⟩, key.2⟩
def turnB (β : Blocks) (x y : Nat) : Blocks := fun z => if z = y then β x else if z = x then none else β z
theorem turn_far {z : Nat} (h : z ≠ x) (h2 : z ≠ y) : turnB β x y z = β z := by unfold turnB; rw [if_neg h2, if_neg h]
theorem turn_at : turnB β x y y = β x := if_pos rfl
theorem turn_key {z : Nat} {u : Value} (h : turnB β x y z = some u) : (z = y ∧ β x = some u) ∨ (z ≠ y ∧ z ≠ x ∧ β z = some u) := by
  unfold turnB at h
  split at h
  · rename_i e; exact .inl ⟨e, h⟩
  · split at h
    · cases h
    · rename_i h1 h2; exact .inr ⟨h1, h2, h⟩
def rnOB (x y : Nat) : OB → OB
  | .box l => .box (l.map (rnS x y))
  | .out t n b hole => .out t n (if b = x then y else b) hole
  | ob => ob
def rnH (x y : Nat) (H : Heap) : Heap := H.map fun p => (p.1, rnOB x y p.2)
theorem rnH_mem {p : Nat × OB} (h : p ∈ rnH x y H) : ∃ l0, (p.1, l0) ∈ H ∧ p.2 = rnOB x y l0 := by
  obtain ⟨⟨o, l0⟩, h1, rfl⟩ := List.mem_map.1 h
  exact ⟨l0, h1, rfl⟩
/-- The names of the rest, when x turns to y. -/
def okRest (x y nb : Nat) (p : Nat × OB) : Prop := p.1 < nb ∧ p.1 ≠ x ∧ p.1 ≠ y ∧ obOk (fun z => z == x || (z != y && decide (z < nb))) p.2 = true
theorem turn_ok {t : TypeId} {e n : Nat} {row : Nat → Nat → PS} (h : Inv nb1 w F β ((x, .rows t e n row) :: H2)) (hy : y < nb2) (hr : ∀ p ∈ H2, okRest x y nb2 p) : Inv nb2 w F (turnB β x y) ((y, .rows t e n row) :: rnH x y H2) := by
  refine ⟨?_, ?_, ?_, ?_, h.lt, ?_⟩
  · intro o l l' h1 h2
    rcases List.mem_cons.1 h1 with e1 | h1 <;> rcases List.mem_cons.1 h2 with e2 | h2
    · rw [(Prod.mk.inj e1).2, (Prod.mk.inj e2).2]
    · obtain ⟨l0, q1, _⟩ := rnH_mem h2
      exact absurd (Prod.mk.inj e1).1 (hr _ q1).2.2.1
    · obtain ⟨l0, q1, _⟩ := rnH_mem h1
      exact absurd (Prod.mk.inj e2).1 (hr _ q1).2.2.1
    · obtain ⟨l0, q1, q2⟩ := rnH_mem h1
      obtain ⟨l1, q3, q4⟩ := rnH_mem h2
      simp only at q1 q2 q3 q4
      rw [q2, q4, h.uniq o l0 l1 (List.mem_cons_of_mem _ q1) (List.mem_cons_of_mem _ q3)]
  · intro o l h1
    rcases List.mem_cons.1 h1 with e1 | h1
    · obtain ⟨rfl, rfl⟩ := Prod.mk.inj e1
      obtain ⟨_, v, xs, q1, q2, q3⟩ := h.obj x _ (List.mem_cons_self ..)
      exact ⟨hy, v, xs, turn_at.trans q1, q2, q3⟩
    · obtain ⟨l0, hm, hl⟩ := rnH_mem h1
      simp only at hm hl
      subst hl
      obtain ⟨q1, q2, q3, q4⟩ := hr _ hm
      have q5 := (h.obj o l0 (List.mem_cons_of_mem _ hm)).2
      refine ⟨q1, ?_⟩
      cases l0 with
      | box l =>
        obtain ⟨_, b, c, t, h2, h3, h4⟩ := q5
        obtain ⟨h5, h6⟩ := rnL_ok (β' := turnB β x y) (ok := fun z => z == x || (z != y && decide (z < nb2))) (ok' := fun z => decide (z < nb2)) (x := x) (y := y) (fun z hz => by
          by_cases e : z = x
          · subst e
            rw [if_pos rfl]
            exact ⟨turn_at, by simpa using hy⟩
          · rw [if_neg e]
            simp [e] at hz
            exact ⟨turn_far e hz.1, by simpa using hz.2⟩) h4 q4
        exact ⟨h6, b, c, t, (turn_far q2 q3).trans h2, h3, h5⟩
      | rows _ _ _ _ =>
        obtain ⟨v, xs, h2, h3, h4⟩ := q5
        exact ⟨v, xs, (turn_far q2 q3).trans h2, h3, h4⟩
      | mp _ _ _ =>
        obtain ⟨r, es, c, h2, h3⟩ := q5
        exact ⟨r, es, c, (turn_far q2 q3).trans h2, h3⟩
      | out t n b hole =>
        obtain ⟨_, v, xs, l, h2, h3, h4, h5⟩ := q5
        have q4' : (b == x || (b != y && decide (b < nb2))) = true := q4
        refine ⟨?_, v, xs, l, (turn_far q2 q3).trans h2, h3, ?_, h5⟩ <;> by_cases e : b = x
        · rw [if_pos e]; exact hy
        · rw [if_neg e]; simp [e] at q4'; exact q4'.2
        · rw [if_pos e, turn_at]; exact e ▸ h4
        · rw [if_neg e]; simp [e] at q4'; rw [turn_far e q4'.1]; exact h4
      | inn t e n st len row =>
        obtain ⟨l, h2, h3⟩ := q5
        exact ⟨l, (turn_far q2 q3).trans h2, h3⟩
      | dead =>
        obtain ⟨u, h2⟩ := q5
        exact ⟨u, (turn_far q2 q3).trans h2⟩
  · intro o u b h1 h2
    rcases turn_key h1 with ⟨_, h3⟩ | ⟨_, _, h3⟩ <;> exact h.apart _ u b h3 h2
  · intro o o' u u' b h1 h2 h3 h4
    rcases turn_key h1 with ⟨e1, h5⟩ | ⟨e1, e2, h5⟩ <;> rcases turn_key h2 with ⟨e3, h6⟩ | ⟨e3, e4, h6⟩
    · rw [e1, e3]
    · exact absurd (h.inj _ _ _ _ b h5 h6 h3 h4).symm e4
    · exact absurd (h.inj _ _ _ _ b h5 h6 h3 h4) e2
    · exact h.inj _ _ _ _ b h5 h6 h3 h4
  · intro o u b h1 h2
    rcases turn_key h1 with ⟨_, h3⟩ | ⟨_, _, h3⟩ <;> exact h.ltβ _ u b h3 h2
theorem turn_run {ob : OB} (h : Run ok w0 F0 β0 H0 w F β ((x, ob) :: H2)) (hr : ∀ p ∈ H2, okRest x y nb2 p) : Run (fun z => ok z && (z != x && z != y)) w0 F0 β0 H0 w F (turnB β x y) ((y, ob) :: rnH x y H2) := by
  refine ⟨⟨h.step.os, h.step.tape, h.step.output, h.step.size, h.step.read, fun z b hz hb => ?_⟩, h.frame, ?_, h.fresh⟩
  · simp at hz
    rw [turn_far hz.2.1 hz.2.2]
    exact h.step.own z b hz.1 hb
  · intro o l u b h1 h2 h3 h4
    rcases List.mem_cons.1 h1 with e1 | h1
    · obtain ⟨rfl, rfl⟩ := Prod.mk.inj e1
      rw [turn_at] at h2
      exact h.olds x _ u b (List.mem_cons_self ..) h2 h3 h4
    · obtain ⟨l0, hm, _⟩ := rnH_mem h1
      obtain ⟨_, q2, q3, _⟩ := hr _ hm
      rw [turn_far q2 q3] at h2
      exact h.olds o l0 u b (List.mem_cons_of_mem _ hm) h2 h3 h4
def lowB (nb : Nat) (H : Heap) : Bool := H.all fun p => decide (p.1 < nb) && obOk (fun y => decide (y < nb)) p.2
theorem down_ok (h : Inv nb1 w F β H) (hc : lowB nb H = true) : Inv nb w F β H := ⟨h.uniq, fun o l hm => by
  have h1 := List.all_eq_true.1 hc _ hm
  simp only [Bool.and_eq_true, decide_eq_true_eq] at h1
  refine ⟨h1.1, ?_⟩
  have h2 := (h.obj o l hm).2
  cases l with
  | box l => exact ⟨h1.2, h2.2⟩
  | out t n b hole => exact ⟨by simpa [obOk] using h1.2, h2.2⟩
  | rows t e n row => exact h2
  | mp ki vi val => exact h2
  | inn t e n st len row => exact h2
  | dead => exact h2, h.apart, h.inj, h.lt, h.ltβ⟩
theorem Inv.nil0 (h : Inv nb1 w F β []) : Inv 0 w F β [] := ⟨(fun _ _ _ hm => nomatch hm), (fun _ _ hm => nomatch hm), h.apart, h.inj, h.lt, h.ltβ⟩
/-- A row that a call hands back gets the name o; what named it by nb names it so. -/
def newR (nb : Nat) (H2 : Heap) (o : Nat) (ob : OB) : Option Heap := if (H2.all fun p => p.1 == o || (decide (p.1 < nb) && obOk (fun z => z == nb || (z != o && decide (z < nb))) p.2)) = true then some ((o, ob) :: rnH nb o (H2.filter (fun p => p.1 != o))) else none
theorem adopt_ok {t : TypeId} {e n o : Nat} {row : Nat → Nat → PS} (h' : Inv (nb + 1) w' F' β' ((nb, .rows t e n row) :: H2)) (hr : Run ok w F β H w' F' β' ((nb, .rows t e n row) :: H2)) (ho : o < nb) (hH : newR nb H2 o (.rows t e n row) = some H') :
    Inv nb w' F' (turnB β' nb o) H' ∧ Run (fun z => ok z && (z != nb && z != o)) w F β H w' F' (turnB β' nb o) H' := by
  unfold newR at hH
  split at hH
  case isFalse => cases hH
  rename_i hq
  obtain rfl := Option.some.inj hH
  have hsub : ∀ p, p ∈ (nb, OB.rows t e n row) :: H2.filter (fun x => x.1 != o) → p ∈ (nb, OB.rows t e n row) :: H2 := fun p hp => by
    rcases List.mem_cons.1 hp with h | h
    · exact h ▸ List.mem_cons_self ..
    · exact List.mem_cons_of_mem _ (List.mem_filter.1 h).1
  have hrest : ∀ p ∈ H2.filter (fun x => x.1 != o), okRest nb o nb p := fun p hp => by
    obtain ⟨h1, h2⟩ := List.mem_filter.1 hp
    have h4 := List.all_eq_true.1 hq _ h1
    have hne : p.1 ≠ o := by simpa using h2
    rcases Bool.or_eq_true _ _ ▸ h4 with h | h
    · exact absurd (by simpa using h) hne
    · simp only [Bool.and_eq_true, decide_eq_true_eq] at h
      exact ⟨h.1, Nat.ne_of_lt h.1, hne, h.2⟩
  exact ⟨turn_ok (h'.less hsub) ho hrest, turn_run (hr.less hsub) hrest⟩
theorem adopt_val {o : Nat} {v : PV} {u : Value} (h : RN (nb + 1) w F β v u) (ho : o < nb) (hv : okV (fun z => z != o) v = true) : RN nb w F (turnB β nb o) (rnV nb o v) u := by
  refine rnV_ok (ok := fun z => (z != o) && decide (z < nb + 1)) (fun z hz => ?_) h.1 (okV_and hv h.2)
  simp at hz
  by_cases e : z = nb
  · subst e
    rw [if_pos rfl]
    exact ⟨turn_at, by simpa using ho⟩
  · rw [if_neg e]
    exact ⟨turn_far e hz.1, by simp; omega⟩
/-- The names of a call that was given no object, among the caller's. -/
def liftB (nb : Nat) (β β2 : Blocks) : Blocks := fun z => if z = nb then β2 0 else β z
theorem lift_ok {t : TypeId} {e n : Nat} {row : Nat → Nat → PS} {β1 β2 : Blocks} (h : Inv nb w F β H) (h' : Inv 1 w' F' β2 [(0, .rows t e n row)]) (r : Run (fun o => decide (o < 0)) w F β1 [] w' F' β2 [(0, .rows t e n row)]) :
    Inv (nb + 1) w' F' (liftB nb β β2) ((nb, .rows t e n row) :: H) ∧ Run (fun o => decide (o < nb)) w F β H w' F' (liftB nb β β2) ((nb, .rows t e n row) :: H) := by
  have hst : Step (fun o => decide (o < nb)) w F β w' F' (liftB nb β β2) := ⟨r.step.os, r.step.tape, r.step.output, r.step.size, r.step.read, fun z b hz hb => by
    simp at hz
    unfold liftB; rw [if_neg (by omega)]; exact hb⟩
  have hfr : ∀ b, F' b → b < w.heap.size → F b := fun b hF hb => (r.fresh b hF hb).elim id (fun ⟨_, _, _, hm, _⟩ => nomatch hm)
  have hnew : ∀ u b, β2 0 = some u → Blk u b → w.heap.size ≤ b := fun u b hu hb => by
    rcases Nat.lt_or_ge b w.heap.size with q | q
    · obtain ⟨_, _, hm, _⟩ := r.olds 0 _ u b (List.mem_cons_self ..) hu hb q
      exact nomatch hm
    · exact q
  have key : ∀ z u, liftB nb β β2 z = some u → (z = nb ∧ β2 0 = some u) ∨ (z ≠ nb ∧ β z = some u) := fun z u hz => by
    unfold liftB at hz
    split at hz
    · rename_i e; exact .inl ⟨e, hz⟩
    · rename_i e; exact .inr ⟨e, hz⟩
  refine ⟨⟨?_, ?_, ?_, ?_, h'.lt, ?_⟩, hst, fun b hb _ => r.frame b hb (fun _ _ _ hm => nomatch hm), ?_, fun b hF hb => .inl (hfr b hF hb)⟩
  · intro o l l' h1 h2
    rcases List.mem_cons.1 h1 with e1 | h1 <;> rcases List.mem_cons.1 h2 with e2 | h2
    · rw [(Prod.mk.inj e1).2, (Prod.mk.inj e2).2]
    · have := (h.obj _ _ h2).1; have := (Prod.mk.inj e1).1; omega
    · have := (h.obj _ _ h1).1; have := (Prod.mk.inj e2).1; omega
    · exact h.uniq o l l' h1 h2
  · intro o l h1
    rcases List.mem_cons.1 h1 with e1 | h1
    · obtain ⟨rfl, rfl⟩ := Prod.mk.inj e1
      obtain ⟨_, v, xs, q1, q2, q3⟩ := h'.obj 0 _ (List.mem_cons_self ..)
      refine ⟨Nat.lt_succ_self _, v, xs, ?_, q2, q3⟩
      unfold liftB; rw [if_pos rfl]; exact q1
    · obtain ⟨q1, q2⟩ := h.obj o l h1
      have q5 := ob_move q2 hst (ob_names q2) (fun u hu => by unfold liftB; rw [if_neg (by omega)]; exact hu) (fun u b h3 h4 => r.frame b (h.ltβ o u b h3 h4) (fun _ _ _ hm => nomatch hm))
      refine ⟨Nat.lt_succ_of_lt q1, ?_⟩
      cases l with
      | box l => exact ⟨List.all_eq_true.2 (fun s hs => okS_imp (fun z hz => by simp at hz ⊢; omega) (List.all_eq_true.1 q5.1 s hs)), q5.2⟩
      | out t n b hole => exact ⟨Nat.lt_succ_of_lt q5.1, q5.2⟩
      | rows _ _ _ _ => exact q5
      | mp _ _ _ => exact q5
      | inn _ _ _ _ _ _ => exact q5
      | dead => exact q5
  · intro o u b h1 h2 hF
    rcases key o u h1 with ⟨_, h3⟩ | ⟨_, h3⟩
    · exact h'.apart 0 u b h3 h2 hF
    · exact h.apart o u b h3 h2 (hfr b hF (h.ltβ o u b h3 h2))
  · intro o o' u u' b h1 h2 h3 h4
    rcases key o u h1 with ⟨e1, h5⟩ | ⟨e1, h5⟩ <;> rcases key o' u' h2 with ⟨e2, h6⟩ | ⟨e2, h6⟩
    · rw [e1, e2]
    · have := hnew u b h5 h3; have := h.ltβ o' u' b h6 h4; omega
    · have := hnew u' b h6 h4; have := h.ltβ o u b h5 h3; omega
    · exact h.inj o o' u u' b h5 h6 h3 h4
  · intro o u b h1 h2
    rcases key o u h1 with ⟨_, h3⟩ | ⟨_, h3⟩
    · exact h'.ltβ 0 u b h3 h2
    · exact Nat.lt_of_lt_of_le (h.ltβ o u b h3 h2) r.step.size
  · intro o l u b h1 h2 h3 h4
    rcases List.mem_cons.1 h1 with e1 | h1
    · obtain ⟨rfl, rfl⟩ := Prod.mk.inj e1
      rcases key o u h2 with ⟨_, h5⟩ | ⟨h5, _⟩
      · have := hnew u b h5 h3; omega
      · exact absurd rfl h5
    · rcases key o u h2 with ⟨h5, _⟩ | ⟨_, h5⟩
      · have := (h.obj o l h1).1; omega
      · exact ⟨o, l, u, h1, h5, h3⟩
theorem lift_val {β2 : Blocks} {v : PV} {u : Value} (h : RN 1 w F β2 v u) : RN (nb + 1) w F (liftB nb β β2) (rnV 0 nb v) u := by
  refine rnV_ok (fun z hz => ?_) h.1 h.2
  have : z = 0 := by simpa using hz
  subst this
  rw [if_pos rfl]
  exact ⟨by unfold liftB; rw [if_pos rfl], by simp⟩
end turn
/-! An object that is only read from now on. -/
def vwS (o : Nat) (s' : PS) : PS → PS
  | .os x => if x = o then s' else .os x
  | s => s
def vwV1 (o : Nat) (s' : PS) : PV → PV
  | .one s => .one (vwS o s' s)
  | .agg l => .agg (l.map (vwS o s'))
  | .fn f l => .fn f (l.map (vwS o s'))
  | v => v
def vwV (o : Nat) (s' : PS) : PV → PV
  | .one s => .one (vwS o s' s)
  | .agg l => .agg (l.map (vwS o s'))
  | .fn f l => .fn f (l.map (vwS o s'))
  | .tup l => .tup (l.map (vwV1 o s'))
def vwE (o : Nat) (s' : PS) (E : En) : En := keepE (fun z => z != o) (E.map fun x => (x.1, x.2.1, vwV o s' x.2.2))
def vwOB (o : Nat) (s' : PS) : OB → OB
  | .box l => .box (l.map fun s => killS o (vwS o s' s))
  | .out t n b hole => if b = o then .dead else .out t n b hole
  | ob => ob
def vwH (o : Nat) (s' : PS) (H : Heap) : Heap := (H.filter (fun x => x.1 != o)).map fun x => (x.1, vwOB o s' x.2)
def offB (o : Nat) (β : Blocks) : Blocks := fun z => if z = o then none else β z
def moreF (o : Nat) (β : Blocks) (F : Nat → Prop) : Nat → Prop := fun b => F b ∨ ∃ u, β o = some u ∧ Blk u b
section freeze
variable {nb : Nat} {w : World} {F : Nat → Prop} {β : Blocks} {H : Heap} {o : Nat} {s' : PS} {ob : OB}
theorem off_step (o : Nat) (w : World) (F : Nat → Prop) (β : Blocks) : Step (fun z => z != o) w F β w (moreF o β F) (offB o β) := ⟨rfl, rfl, rfl, Nat.le_refl _, fun b hb => ⟨.inl hb, rfl⟩, fun z u hz hu => by
  unfold offB; rw [if_neg (by simpa using hz)]; exact hu⟩
theorem vwS_ok (hn : noPtr s' = true) (hs : ∀ u, β o = some u → hdrV u = true → RF w (moreF o β F) s' u) {s : PS} {u : Value} (r : RS w F β s u) (hk : okS (fun z => z != o) (vwS o s' s) = true) : RS w (moreF o β F) (offB o β) (vwS o s' s) u := by
  have same : vwS o s' s = s → RS w (moreF o β F) (offB o β) (vwS o s' s) u := fun e => by
    rw [e] at hk ⊢
    exact RS.step (off_step o w F β) hk r
  cases s with
  | os x =>
    by_cases e : x = o
    · subst e
      show RS w _ _ (if x = x then s' else .os x) _
      rw [if_pos rfl]
      exact (RS_of hn).2 (hs _ r.1 r.2)
    · exact same (by show (if x = o then s' else .os x) = _; rw [if_neg e])
  | _ => exact same rfl
theorem vwS_low (hn : noPtr s' = true) {ok : Nat → Bool} {s : PS} (h : okS ok s = true) : okS ok (vwS o s' s) = true := by
  cases s with
  | os x =>
    show okS ok (if x = o then s' else .os x) = true
    split
    · exact okS_noPtr hn _
    · exact h
  | _ => exact h
theorem vwL_ok (hn : noPtr s' = true) (hs : ∀ u, β o = some u → hdrV u = true → RF w (moreF o β F) s' u) {l : List PS} {m : List Value} (r : All2 (RS w F β) l m) (hk : (l.map (vwS o s')).all (okS fun z => z != o) = true) : All2 (RS w (moreF o β F) (offB o β)) (l.map (vwS o s')) m := by
  induction r with
  | nil => exact .nil
  | cons h1 _ ih =>
    rw [List.map_cons, List.all_cons, Bool.and_eq_true] at hk
    exact .cons (vwS_ok hn hs h1 hk.1) (ih hk.2)
theorem vwL_low (hn : noPtr s' = true) {ok : Nat → Bool} {l : List PS} (h : l.all (okS ok) = true) : (l.map (vwS o s')).all (okS ok) = true := by
  rw [List.all_eq_true] at h ⊢
  intro s hs
  obtain ⟨s0, h1, rfl⟩ := List.mem_map.1 hs
  exact vwS_low hn (h s0 h1)
theorem vwV1_ok (hn : noPtr s' = true) (hs : ∀ u, β o = some u → hdrV u = true → RF w (moreF o β F) s' u) {v : PV} {u : Value} (r : RV1 w F β v u) (hk : okV1 (fun z => z != o) (vwV1 o s' v) = true) : RV1 w (moreF o β F) (offB o β) (vwV1 o s' v) u := by
  cases v with
  | one s => exact vwS_ok hn hs r hk
  | agg l => obtain ⟨m, rfl, h1⟩ := r; exact ⟨m, rfl, vwL_ok hn hs h1 hk⟩
  | fn f l => obtain ⟨m, rfl, h1⟩ := r; exact ⟨m, rfl, vwL_ok hn hs h1 hk⟩
  | tup l => exact r.elim
theorem vwV1_low (hn : noPtr s' = true) {ok : Nat → Bool} {v : PV} (h : okV1 ok v = true) : okV1 ok (vwV1 o s' v) = true := by
  cases v with
  | one s => exact vwS_low hn h
  | agg l => exact vwL_low hn h
  | fn f l => exact vwL_low hn h
  | tup l => exact h
theorem vwV_ok (hn : noPtr s' = true) (hs : ∀ u, β o = some u → hdrV u = true → RF w (moreF o β F) s' u) {v : PV} {u : Value} (r : RN nb w F β v u) (hk : okV (fun z => z != o) (vwV o s' v) = true) : RN nb w (moreF o β F) (offB o β) (vwV o s' v) u := by
  obtain ⟨r, h0⟩ := r
  cases v with
  | one s => exact ⟨vwS_ok hn hs r hk, vwS_low hn h0⟩
  | agg l => obtain ⟨m, rfl, h1⟩ := r; exact ⟨⟨m, rfl, vwL_ok hn hs h1 hk⟩, vwL_low hn h0⟩
  | fn f l => obtain ⟨m, rfl, h1⟩ := r; exact ⟨⟨m, rfl, vwL_ok hn hs h1 hk⟩, vwL_low hn h0⟩
  | tup l =>
    obtain ⟨m, rfl, h1⟩ := r
    have hk' : (l.map (vwV1 o s')).all (okV1 fun z => z != o) = true := hk
    have h0' : l.all (okV1 fun y => decide (y < nb)) = true := h0
    have key : All2 (RV1 w (moreF o β F) (offB o β)) (l.map (vwV1 o s')) m ∧ (l.map (vwV1 o s')).all (okV1 fun y => decide (y < nb)) = true := by
      clear hk h0
      induction h1 with
      | nil => exact ⟨.nil, rfl⟩
      | cons h2 _ ih =>
        rw [List.map_cons, List.all_cons, Bool.and_eq_true] at hk'
        rw [List.all_cons, Bool.and_eq_true] at h0'
        obtain ⟨h3, h4⟩ := ih hk'.2 h0'.2
        exact ⟨.cons (vwV1_ok hn hs h2 hk'.1) h3, by rw [List.map_cons, List.all_cons, h4, vwV1_low hn h0'.1]; rfl⟩
    exact ⟨⟨m, rfl, key.1⟩, key.2⟩
theorem frz_slots (hn : noPtr s' = true) (hs : ∀ u, β o = some u → hdrV u = true → RF w (moreF o β F) s' u) {T : Array Value} {E : En} (hE : okE nb w F β T E) : okE nb w (moreF o β F) (offB o β) T (vwE o s' E) := fun x hx => by
  obtain ⟨h1, h2⟩ := List.mem_filter.1 hx
  obtain ⟨⟨d, g, v⟩, h3, rfl⟩ := List.mem_map.1 h1
  obtain ⟨h4, h5⟩ := hE _ h3
  refine ⟨h4, ?_⟩
  cases g with
  | none => exact vwV_ok hn hs h5 h2
  | some q => exact ⟨fun c => vwV_ok hn hs (h5.1 c) h2, h5.2⟩
theorem frz_ok (hI : Inv nb w F β H) (hm : (o, ob) ∈ H) (hn : noPtr s' = true) (hs : ∀ u, β o = some u → hdrV u = true → RF w (moreF o β F) s' u) :
    Inv nb w (moreF o β F) (offB o β) (vwH o s' H) ∧ Run (fun z => z != o) w F β H w (moreF o β F) (offB o β) (vwH o s' H) := by
  have hst := off_step o w F β
  have mem : ∀ {z : Nat} {l : OB}, (z, l) ∈ vwH o s' H → ∃ l0, (z, l0) ∈ H ∧ z ≠ o ∧ l = vwOB o s' l0 := fun {z l} h => by
    obtain ⟨⟨z0, l0⟩, h1, h2⟩ := List.mem_map.1 h
    obtain ⟨h3, h4⟩ := List.mem_filter.1 h1
    obtain ⟨rfl, rfl⟩ := Prod.mk.inj h2
    exact ⟨l0, h3, by simpa using h4, rfl⟩
  have key : ∀ {z : Nat} {u : Value}, offB o β z = some u → z ≠ o ∧ β z = some u := fun {z u} h => by
    unfold offB at h
    split at h
    · cases h
    · rename_i e; exact ⟨e, h⟩
  refine ⟨⟨?_, ?_, ?_, ?_, ?_, ?_⟩, hst, fun _ _ _ => rfl, ?_, ?_⟩
  · intro z l l' h1 h2
    obtain ⟨l0, h3, _, rfl⟩ := mem h1
    obtain ⟨l1, h4, _, rfl⟩ := mem h2
    rw [hI.uniq z l0 l1 h3 h4]
  · intro z l h1
    obtain ⟨l0, h3, h4, rfl⟩ := mem h1
    obtain ⟨h5, h6⟩ := hI.obj z l0 h3
    refine ⟨h5, ?_⟩
    cases l0 with
    | rows t e n row => exact ob_move h6 hst rfl (fun u hu => by unfold offB; rw [if_neg h4]; exact hu) (fun _ _ _ _ => rfl)
    | mp ki vi val => exact ob_move h6 hst rfl (fun u hu => by unfold offB; rw [if_neg h4]; exact hu) (fun _ _ _ _ => rfl)
    | inn _ _ _ _ _ _ => exact ob_move h6 hst rfl (fun u hu => by unfold offB; rw [if_neg h4]; exact hu) (fun _ _ _ _ => rfl)
    | dead => exact ob_move h6 hst rfl (fun u hu => by unfold offB; rw [if_neg h4]; exact hu) (fun _ _ _ _ => rfl)
    | out t n b hole =>
      by_cases e : b = o
      · rw [show vwOB o s' (.out t n b hole) = .dead from if_pos e]
        obtain ⟨_, v, _, _, h1, _⟩ := h6
        exact ⟨v, by unfold offB; rw [if_neg h4]; exact h1⟩
      · rw [show vwOB o s' (.out t n b hole) = .out t n b hole from if_neg e]
        exact ob_move h6 hst (by simpa [obOk] using e) (fun u hu => by unfold offB; rw [if_neg h4]; exact hu) (fun _ _ _ _ => rfl)
    | box l =>
      obtain ⟨h7, b, c, t, h8, h9, h10⟩ := h6
      refine ⟨?_, b, c, t, by unfold offB; rw [if_neg h4]; exact h8, h9, ?_⟩
      · rw [List.all_eq_true]
        intro s hs'
        obtain ⟨s0, q1, rfl⟩ := List.mem_map.1 hs'
        unfold killS
        split
        · exact vwS_low hn (List.all_eq_true.1 h7 s0 q1)
        · rfl
      · clear h7 h9
        have : ∀ {l : List PS} {m : List Value}, All2 (RS w F β) l m → All2 (RS w (moreF o β F) (offB o β)) (l.map fun s => killS o (vwS o s' s)) m := by
          intro l m hlm
          induction hlm with
          | nil => exact .nil
          | cons q1 _ ih =>
            refine .cons ?_ ih
            show RS w (moreF o β F) (offB o β) (killS o (vwS o s' _)) _
            unfold killS
            split
            · rename_i hk; exact vwS_ok hn hs q1 hk
            · exact RS.one q1
        exact this h10
  · rintro z u b h1 h2 (h3 | ⟨u2, h3, h4⟩)
    · exact hI.apart z u b (key h1).2 h2 h3
    · exact (key h1).1 (hI.inj z o u u2 b (key h1).2 h3 h2 h4)
  · intro z z' u u' b h1 h2 h3 h4
    exact hI.inj z z' u u' b (key h1).2 (key h2).2 h3 h4
  · rintro b (h1 | ⟨u, h1, h2⟩)
    · exact hI.lt b h1
    · exact hI.ltβ o u b h1 h2
  · intro z u b h1 h2
    exact hI.ltβ z u b (key h1).2 h2
  · intro z l u b h1 h2 h3 _
    obtain ⟨l0, h4, _, rfl⟩ := mem h1
    exact ⟨z, l0, u, h4, (key h2).2, h3⟩
  · rintro b (h1 | ⟨u, h1, h2⟩) hb
    · exact .inl h1
    · exact .inr ⟨o, ob, u, hm, h1, h2⟩
end freeze
end Go.Proofs.Ytobfnncpjkeloaa.Ev
