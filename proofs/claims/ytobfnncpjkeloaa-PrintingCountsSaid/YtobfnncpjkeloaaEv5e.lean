import Derived.Test.YtobfnncpjkeloaaEv5d
namespace Go.Proofs.Ytobfnncpjkeloaa.Ev
open Go Go.RowKit Go.Proofs.YtobfnncpjkeloaaW.PrintLast
/-! #### a call is given what its arguments reach, under the names 0, 1, .. -/
def mpS (g : Nat → Nat) : PS → PS
  | .ptr o off => .ptr (g o) off
  | .os o => .os (g o)
  | .rp o e i off => .rp (g o) e i off
  | .fi o i => .fi (g o) i
  | .fp o i e k off => .fp (g o) i e k off
  | s => s
def mpV1 (g : Nat → Nat) : PV → PV
  | .one s => .one (mpS g s)
  | .agg l => .agg (l.map (mpS g))
  | .fn f l => .fn f (l.map (mpS g))
  | v => v
def mpV (g : Nat → Nat) : PV → PV
  | .one s => .one (mpS g s)
  | .agg l => .agg (l.map (mpS g))
  | .fn f l => .fn f (l.map (mpS g))
  | .tup l => .tup (l.map (mpV1 g))
def mpOB (g : Nat → Nat) : OB → OB
  | .box l => .box (l.map (mpS g))
  | .out t n b hole => .out t n (g b) hole
  | ob => ob
def nmS : PS → List Nat
  | .ptr o _ => [o]
  | .os o => [o]
  | .rp o _ _ _ => [o]
  | .fi o _ => [o]
  | .fp o _ _ _ _ => [o]
  | _ => []
def nmV1 : PV → List Nat
  | .one s => nmS s
  | .agg l => l.flatMap nmS
  | .fn _ l => l.flatMap nmS
  | .tup _ => []
def nmV : PV → List Nat
  | .tup l => l.flatMap nmV1
  | v => nmV1 v
def nmOB : OB → List Nat
  | .box l => l.flatMap nmS
  | .out _ _ b _ => [b]
  | _ => []
def addL (acc new : List Nat) : List Nat := new.foldl (fun a x => if a.contains x = true then a else a ++ [x]) acc
def reachL (H : Heap) : Nat → List Nat → List Nat
  | 0, l => l
  | k + 1, l => reachL H k (addL l (l.flatMap fun o => match findH H o with | some ob => nmOB ob | none => []))
def reach (H : Heap) (vs : List PV) : List Nat := reachL H 4 (addL [] (vs.flatMap nmV))
def ixL : List Nat → Nat → Nat
  | [], _ => 0
  | x :: l, z => if z = x then 0 else ixL l z + 1
def nodupB : List Nat → Bool
  | [] => true
  | x :: l => !l.contains x && nodupB l
def subH (H : Heap) (L0 : List Nat) : List Nat → Option Heap
  | [] => some []
  | o :: l => match findH H o, subH H L0 l with
    | some ob, some r => if obOk (fun z => L0.contains z) ob = true then some ((ixL L0 o, mpOB (ixL L0) ob) :: r) else none
    | _, _ => none
theorem ix_at {L : List Nat} {z : Nat} (h : z ∈ L) : L[ixL L z]? = some z := by
  induction L with
  | nil => cases h
  | cons x l ih =>
    unfold ixL
    split
    · rename_i e; subst e; rfl
    · rename_i e
      rcases List.mem_cons.1 h with h1 | h1
      · exact absurd h1 e
      · simpa using ih h1
theorem ix_lt {L : List Nat} {z : Nat} (h : z ∈ L) : ixL L z < L.length := by
  have := ix_at h
  exact (List.getElem?_eq_some_iff.1 this).1
theorem nodup_ix {L : List Nat} (h : nodupB L = true) {i z : Nat} (hi : L[i]? = some z) : ixL L z = i := by
  induction L generalizing i with
  | nil => simp at hi
  | cons x l ih =>
    simp only [nodupB, Bool.and_eq_true, Bool.not_eq_true', List.contains_eq_mem, decide_eq_false_iff_not] at h
    cases i with
    | zero => simp at hi; subst hi; simp [ixL]
    | succ i =>
      have h1 : l[i]? = some z := by simpa using hi
      have h2 : z ∈ l := List.mem_of_getElem? h1
      have h3 : z ≠ x := fun e => h.1 (e ▸ h2)
      unfold ixL
      rw [if_neg h3, ih h.2 h1]
section fr
variable {nb nb1 nb2 : Nat} {w w' : World} {F F' : Nat → Prop} {β β' : Blocks} {H H' : Heap} {ok ok' : Nat → Bool} {g : Nat → Nat}
theorem mpS_ok (hm : ∀ z, ok z = true → β' (g z) = β z ∧ ok' (g z) = true) {s : PS} {u : Value} (r : RS w F β s u) (hs : okS ok s = true) : RS w F β' (mpS g s) u ∧ okS ok' (mpS g s) = true := by
  cases s <;> first
    | exact ⟨r, rfl⟩
    | (obtain ⟨b, h1, rfl⟩ := r; exact ⟨⟨b, (hm _ hs).1.trans h1, rfl⟩, (hm _ hs).2⟩)
    | exact ⟨⟨(hm _ hs).1.trans r.1, r.2⟩, (hm _ hs).2⟩
    | (obtain ⟨b, n, c, h1, rfl⟩ := r; exact ⟨⟨b, n, c, (hm _ hs).1.trans h1, rfl⟩, (hm _ hs).2⟩)
    | (obtain ⟨l, h1, h2, h3⟩ := r; exact ⟨⟨l, (hm _ hs).1.trans h1, h2, h3⟩, (hm _ hs).2⟩)
    | (obtain ⟨l, b, n, c, h1, h2, rfl⟩ := r; exact ⟨⟨l, b, n, c, (hm _ hs).1.trans h1, h2, rfl⟩, (hm _ hs).2⟩)
theorem mpL_ok (hm : ∀ z, ok z = true → β' (g z) = β z ∧ ok' (g z) = true) {l : List PS} {m : List Value} (r : All2 (RS w F β) l m) (hs : l.all (okS ok) = true) : All2 (RS w F β') (l.map (mpS g)) m ∧ (l.map (mpS g)).all (okS ok') = true := by
  induction r with
  | nil => exact ⟨.nil, rfl⟩
  | cons h1 _ ih =>
    rw [List.all_cons, Bool.and_eq_true] at hs
    obtain ⟨h2, h3⟩ := mpS_ok hm h1 hs.1
    obtain ⟨h4, h5⟩ := ih hs.2
    exact ⟨.cons h2 h4, by rw [List.map_cons, List.all_cons, h3, h5]; rfl⟩
theorem mpV1_ok (hm : ∀ z, ok z = true → β' (g z) = β z ∧ ok' (g z) = true) {s : PV} {u : Value} (r : RV1 w F β s u) (hs : okV1 ok s = true) : RV1 w F β' (mpV1 g s) u ∧ okV1 ok' (mpV1 g s) = true := by
  cases s with
  | one s => exact mpS_ok hm r hs
  | agg l => obtain ⟨m, rfl, h1⟩ := r; exact ⟨⟨m, rfl, (mpL_ok hm h1 hs).1⟩, (mpL_ok hm h1 hs).2⟩
  | fn f l => obtain ⟨m, rfl, h1⟩ := r; exact ⟨⟨m, rfl, (mpL_ok hm h1 hs).1⟩, (mpL_ok hm h1 hs).2⟩
  | tup l => exact r.elim
theorem mpV_ok (hm : ∀ z, ok z = true → β' (g z) = β z ∧ ok' (g z) = true) {s : PV} {u : Value} (r : RV w F β s u) (hs : okV ok s = true) : RV w F β' (mpV g s) u ∧ okV ok' (mpV g s) = true := by
  cases s with
  | one s => exact mpS_ok hm r hs
  | agg l => obtain ⟨m, rfl, h1⟩ := r; exact ⟨⟨m, rfl, (mpL_ok hm h1 hs).1⟩, (mpL_ok hm h1 hs).2⟩
  | fn f l => obtain ⟨m, rfl, h1⟩ := r; exact ⟨⟨m, rfl, (mpL_ok hm h1 hs).1⟩, (mpL_ok hm h1 hs).2⟩
  | tup l =>
    obtain ⟨m, rfl, h1⟩ := r
    have hs' : l.all (okV1 ok) = true := hs
    have key : All2 (RV1 w F β') (l.map (mpV1 g)) m ∧ (l.map (mpV1 g)).all (okV1 ok') = true := by
      clear hs
      induction h1 with
      | nil => exact ⟨.nil, rfl⟩
      | cons h1 _ ih =>
        rw [List.all_cons, Bool.and_eq_true] at hs'
        obtain ⟨h2, h3⟩ := mpV1_ok hm h1 hs'.1
        obtain ⟨h4, h5⟩ := ih hs'.2
        exact ⟨.cons h2 h4, by rw [List.map_cons, List.all_cons, h3, h5]; rfl⟩
    exact ⟨⟨m, rfl, key.1⟩, key.2⟩
theorem mpOB_ok {o o' : Nat} {ob : OB} (h : okOB nb1 w F β o ob) (hn : obOk ok ob = true) (hm : ∀ z, ok z = true → β' (g z) = β z ∧ g z < nb2) (ho : β' o' = β o) : okOB nb2 w F β' o' (mpOB g ob) := by
  cases ob with
  | box l =>
    obtain ⟨h1, b, c, t, h2, h3, h4⟩ := h
    obtain ⟨h5, h6⟩ := mpL_ok (ok' := fun x => decide (x < nb2)) (fun z hz => ⟨(hm z hz).1, by simpa using (hm z hz).2⟩) h4 hn
    exact ⟨h6, b, c, t, ho.trans h2, h3, h5⟩
  | rows t e n row =>
    obtain ⟨v, xs, h1, h2, h3⟩ := h
    exact ⟨v, xs, ho.trans h1, h2, h3⟩
  | mp ki vi val =>
    obtain ⟨r, es, c, h1, h2⟩ := h
    exact ⟨r, es, c, ho.trans h1, h2⟩
  | out t n b hole =>
    obtain ⟨_, v, xs, l, h1, h2, h3, h4⟩ := h
    exact ⟨(hm _ hn).2, v, xs, l, ho.trans h1, h2, (hm _ hn).1.trans h3, h4⟩
  | inn t e n st len row =>
    obtain ⟨l, h1, h2⟩ := h
    exact ⟨l, ho.trans h1, h2⟩
  | dead =>
    obtain ⟨u, h1⟩ := h
    exact ⟨u, ho.trans h1⟩
/-- The blocks by the names 0, 1, .. -/
def frB (β : Blocks) (L : List Nat) : Blocks := fun i => match L[i]? with
  | some z => β z
  | none => none
theorem frB_ix {L : List Nat} {z : Nat} (h : z ∈ L) : frB β L (ixL L z) = β z := by unfold frB; rw [ix_at h]
theorem frB_some {L : List Nat} {i : Nat} {u : Value} (h : frB β L i = some u) : ∃ z, L[i]? = some z ∧ β z = some u := by
  unfold frB at h
  split at h
  · rename_i z e; exact ⟨z, e, h⟩
  · cases h
theorem subH_mem {L0 : List Nat} : ∀ {l : List Nat} {H0 : Heap}, subH H L0 l = some H0 → ∀ p, p ∈ H0 → ∃ o ob, o ∈ l ∧ (o, ob) ∈ H ∧ obOk (fun z => L0.contains z) ob = true ∧ p = (ixL L0 o, mpOB (ixL L0) ob)
  | [], H0, h, p, hp => by obtain rfl := Option.some.inj h; cases hp
  | o :: l, H0, h, p, hp => by
    unfold subH at h
    split at h
    · rename_i ob r h1 h2
      split at h
      · rename_i h3
        obtain rfl := Option.some.inj h
        rcases List.mem_cons.1 hp with rfl | hp
        · exact ⟨o, ob, List.mem_cons_self .., findH_mem h1, h3, rfl⟩
        · obtain ⟨o', ob', q1, q2, q3, q4⟩ := subH_mem h2 p hp
          exact ⟨o', ob', List.mem_cons_of_mem _ q1, q2, q3, q4⟩
      · cases h
    · cases h
theorem subH_all {L0 : List Nat} : ∀ {l : List Nat} {H0 : Heap}, subH H L0 l = some H0 → ∀ o, o ∈ l → ∃ ob, (o, ob) ∈ H ∧ (ixL L0 o, mpOB (ixL L0) ob) ∈ H0
  | [], H0, h, o, ho => nomatch ho
  | x :: l, H0, h, o, ho => by
    unfold subH at h
    split at h
    · rename_i ob r h1 h2
      split at h
      · obtain rfl := Option.some.inj h
        rcases List.mem_cons.1 ho with rfl | ho
        · exact ⟨ob, findH_mem h1, List.mem_cons_self ..⟩
        · obtain ⟨ob', q1, q2⟩ := subH_all h2 o ho
          exact ⟨ob', q1, List.mem_cons_of_mem _ q2⟩
      · cases h
    · cases h
theorem fr_in (hI : Inv nb w F β H) {L : List Nat} {H0 : Heap} (hnd : nodupB L = true) (hs : subH H L L = some H0) : Inv L.length w F (frB β L) H0 := by
  refine ⟨fun o l l' h1 h2 => ?_, fun o l h1 => ?_, fun o u b h1 h2 => ?_, fun o o' u u' b h1 h2 h3 h4 => ?_, hI.lt, fun o u b h1 h2 => ?_⟩
  · obtain ⟨z, ob, q1, q2, _, q3⟩ := subH_mem hs _ h1
    obtain ⟨z', ob', q1', q2', _, q3'⟩ := subH_mem hs _ h2
    obtain ⟨rfl, rfl⟩ := Prod.mk.inj q3
    obtain ⟨e, rfl⟩ := Prod.mk.inj q3'
    have : z = z' := by
      have e1 := ix_at q1
      rw [e, ix_at q1'] at e1
      exact (Option.some.inj e1).symm
    subst this
    rw [hI.uniq z ob ob' q2 q2']
  · obtain ⟨z, ob, q1, q2, q4, q3⟩ := subH_mem hs _ h1
    obtain ⟨rfl, rfl⟩ := Prod.mk.inj q3
    refine ⟨ix_lt q1, mpOB_ok (hI.obj z ob q2).2 q4 (fun y hy => ?_) (frB_ix q1)⟩
    have hy' : y ∈ L := by simpa using hy
    exact ⟨frB_ix hy', ix_lt hy'⟩
  · obtain ⟨z, _, q⟩ := frB_some h1
    exact hI.apart z u b q h2
  · obtain ⟨z, e1, q⟩ := frB_some h1
    obtain ⟨z', e2, q'⟩ := frB_some h2
    obtain rfl := hI.inj z z' u u' b q q' h3 h4
    rw [← nodup_ix hnd e1, nodup_ix hnd e2]
  · obtain ⟨z, _, q⟩ := frB_some h1
    exact hI.ltβ z u b q h2
theorem fr_args {L : List Nat} {vs : List PV} {us : List Value} (h : All2 (RN nb w F β) vs us) (hc : vs.all (okV fun z => L.contains z) = true) : All2 (RN L.length w F (frB β L)) (vs.map (mpV (ixL L))) us := by
  induction h with
  | nil => exact .nil
  | cons h1 _ ih =>
    rw [List.all_cons, Bool.and_eq_true] at hc
    refine .cons ?_ (ih hc.2)
    exact mpV_ok (ok' := fun y => decide (y < L.length)) (fun z hz => by
      have hz' : z ∈ L := by simpa using hz
      exact ⟨frB_ix hz', by simpa using ix_lt hz'⟩) h1.1 hc.1
/-- Objects in the order in which they lay; new ones first. -/
def ordH (H X : Heap) : Heap := X.filter (fun p => !H.any (fun y => y.1 == p.1)) ++ H.filterMap (fun y => (findH X y.1).map fun ob => (y.1, ob))
theorem ordH_sub {H X : Heap} {x : Nat × OB} (h : x ∈ ordH H X) : x ∈ X := by
  rcases List.mem_append.1 h with h | h
  · exact (List.mem_filter.1 h).1
  · obtain ⟨y, _, hy⟩ := List.mem_filterMap.1 h
    obtain ⟨ob, h1, rfl⟩ := Option.map_eq_some_iff.1 hy
    exact findH_mem h1
/-- The names of what comes back. -/
def bkL (L : List Nat) (nm j : Nat) : Nat := L.getD j nm
def hasN (H1 : Heap) (j : Nat) : Bool := H1.any fun p => p.1 == j
/-- Of what comes back, what is known by its name. -/
def goodN (kk : Nat) (low : Nat → Bool) (H1 : Heap) (j : Nat) : Bool := hasN H1 j || (decide (j < kk) && low j)
def restH (H : Heap) (L : List Nat) (new : Bool) (nm : Nat) : Heap := H.filter fun p => !L.contains p.1 && !(new && p.1 == nm)
def backH (L : List Nat) (nm : Nat) (H1 : Heap) : Heap := H1.map fun p => (bkL L nm p.1, mpOB (bkL L nm) p.2)
def frB2 (β β1 : Blocks) (L : List Nat) (low : Nat → Bool) (new : Bool) (nm : Nat) (H1 : Heap) : Blocks := fun z =>
  if (new && z == nm) = true then β1 L.length else if L.contains z = true then (if goodN L.length low H1 (ixL L z) = true then β1 (ixL L z) else none) else β z
theorem fr_out (hI : Inv nb w F β H) {L : List Nat} {H0 H1 : Heap} {β1 : Blocks} {low : Nat → Bool} {nm : Nat} (hnd : nodupB L = true) (hs : subH H L L = some H0) (h1 : Inv (L.length + 1) w' F' β1 H1) (r : Run (fun j => decide (j < L.length) && low j) w F (frB β L) H0 w' F' β1 H1)
    (hnm : hasN H1 L.length = true → nm < nb ∧ L.contains nm = false) (hgood : H1.all (fun p => obOk (goodN L.length low H1) p.2) = true)
    (hrest : (restH H L (hasN H1 L.length) nm).all (fun p => obOk (fun z => !(L.contains z && !low (ixL L z)) && !(hasN H1 L.length && z == nm)) p.2) = true) :
    Inv nb w' F' (frB2 β β1 L low (hasN H1 L.length) nm H1) (backH L nm H1 ++ restH H L (hasN H1 L.length) nm) ∧
    Run (fun z => !(L.contains z && !low (ixL L z)) && !(hasN H1 L.length && z == nm)) w F β H w' F' (frB2 β β1 L low (hasN H1 L.length) nm H1) (backH L nm H1 ++ restH H L (hasN H1 L.length) nm) ∧
    ∀ {v : PV} {u : Value}, RN (L.length + 1) w' F' β1 v u → okV (goodN L.length low H1) v = true → RN nb w' F' (frB2 β β1 L low (hasN H1 L.length) nm H1) (mpV (bkL L nm) v) u := by
  generalize hβ : frB2 β β1 L low (hasN H1 L.length) nm H1 = β'
  have hIn := fr_in hI hnd hs
  have hL : ∀ z, z ∈ L → z < nb := fun z hz => by obtain ⟨ob, q, _⟩ := subH_all hs z hz; exact (hI.obj z ob q).1
  have hle : ∀ j, goodN L.length low H1 j = true → j ≤ L.length := fun j hj => by
    simp only [goodN, hasN, Bool.or_eq_true, List.any_eq_true, Bool.and_eq_true, decide_eq_true_eq, beq_iff_eq] at hj
    rcases hj with ⟨p, q1, q2⟩ | ⟨q, _⟩
    · have := (h1.obj p.1 p.2 q1).1; omega
    · omega
  have hbk : ∀ j, goodN L.length low H1 j = true → β' (bkL L nm j) = β1 j ∧ bkL L nm j < nb := fun j hj => by
    subst hβ
    rcases Nat.lt_or_ge j L.length with hlt | hge
    · have e1 : L[j]? = some (bkL L nm j) := by unfold bkL; simp [hlt]
      have e2 : bkL L nm j ∈ L := List.mem_of_getElem? e1
      refine ⟨?_, hL _ e2⟩
      unfold frB2
      rw [if_neg (by
        intro hc
        simp only [Bool.and_eq_true, beq_iff_eq] at hc
        have := (hnm hc.1).2
        rw [← hc.2] at this
        simp [e2] at this), if_pos (by simpa using e2), nodup_ix hnd e1, if_pos hj]
    · have e : j = L.length := Nat.le_antisymm (hle j hj) hge
      subst e
      have hn : hasN H1 L.length = true := by
        simp only [goodN, Bool.or_eq_true, Bool.and_eq_true, decide_eq_true_eq] at hj
        rcases hj with q | ⟨q, _⟩
        · exact q
        · omega
      have e1 : bkL L nm L.length = nm := by unfold bkL; simp
      rw [e1]
      refine ⟨?_, (hnm hn).1⟩
      unfold frB2
      rw [if_pos (by simp [hn])]
  have hkey : ∀ z u, β' z = some u → (∃ j, goodN L.length low H1 j = true ∧ z = bkL L nm j ∧ β1 j = some u) ∨ (L.contains z = false ∧ (hasN H1 L.length && z == nm) = false ∧ β z = some u) := fun z u hz => by
    subst hβ
    unfold frB2 at hz
    split at hz
    · rename_i hc
      simp only [Bool.and_eq_true, beq_iff_eq] at hc
      refine .inl ⟨L.length, by simp [goodN, hc.1], by unfold bkL; simp [hc.2], hz⟩
    · rename_i hc
      split at hz
      · rename_i hl
        split at hz
        · rename_i hg
          have hzL : z ∈ L := by simpa using hl
          exact .inl ⟨_, hg, by unfold bkL; rw [List.getD_eq_getElem?_getD, ix_at hzL]; rfl, hz⟩
        · cases hz
      · rename_i hl
        exact .inr ⟨by simpa using hl, by simpa using hc, hz⟩
  have hfar : ∀ z, L.contains z = false → (hasN H1 L.length && z == nm) = false → β' z = β z := fun z h2 h3 => by
    subst hβ
    unfold frB2
    rw [if_neg (by rw [h3]; exact Bool.false_ne_true), if_neg (by rw [h2]; exact Bool.false_ne_true)]
  -- a block of the rest is of no object that was given
  have hout : ∀ z u b, L.contains z = false → β z = some u → Blk u b → ∀ o l u0, (o, l) ∈ H0 → frB β L o = some u0 → ¬ Blk u0 b := fun z u b h2 h3 h4 o l u0 h5 h6 h7 => by
    obtain ⟨y, e1, e2⟩ := frB_some h6
    obtain rfl := hI.inj z y u u0 b h3 e2 h4 h7
    have : z ∈ L := List.mem_of_getElem? e1
    simp [this] at h2
  have hoff : ∀ z u b, L.contains z = false → β z = some u → Blk u b → ¬ F' b := fun z u b h2 h3 h4 h5 => by
    rcases r.fresh b h5 (hI.ltβ z u b h3 h4) with q | ⟨o, l, u0, q1, q2, q3⟩
    · exact hI.apart z u b h3 h4 q
    · exact hout z u b h2 h3 h4 o l u0 q1 q2 q3
  have hcross : ∀ z u b j u1, L.contains z = false → β z = some u → Blk u b → goodN L.length low H1 j = true → β1 j = some u1 → ¬ Blk u1 b := fun z u b j u1 h2 h3 h4 h5 h6 h7 => by
    have hb := hI.ltβ z u b h3 h4
    simp only [goodN, hasN, Bool.or_eq_true, List.any_eq_true, beq_iff_eq] at h5
    rcases h5 with ⟨p, q1, rfl⟩ | h5
    · obtain ⟨o0, l0, u0, q2, q3, q4⟩ := r.olds p.1 p.2 u1 b q1 h6 h7 hb
      exact hout z u b h2 h3 h4 o0 l0 u0 q2 q3 q4
    · have hj : j < L.length := by simp only [Bool.and_eq_true, decide_eq_true_eq] at h5; exact h5.1
      obtain ⟨ob, q1, q2⟩ := subH_all hs _ (List.mem_of_getElem? (List.getElem?_eq_getElem hj))
      obtain ⟨u2, q3⟩ : ∃ u2, β L[j] = some u2 := ob_has (hI.obj _ _ q1).2
      have q4 : frB β L j = some u2 := by unfold frB; rw [List.getElem?_eq_getElem hj]; exact q3
      have q5 := r.step.own j u2 h5 q4
      rw [q5] at h6
      obtain rfl := Option.some.inj h6
      exact hout z u b h2 h3 h4 _ _ u2 q2 (by rw [frB_ix (List.mem_of_getElem? (List.getElem?_eq_getElem hj))]; exact q3) h7
  have hstep : Step (fun z => !(L.contains z && !low (ixL L z)) && !(hasN H1 L.length && z == nm)) w F β w' F' β' := ⟨r.step.os, r.step.tape, r.step.output, r.step.size, r.step.read, fun z u hz hu => by
    simp only [Bool.and_eq_true, Bool.not_eq_true'] at hz
    by_cases hl : L.contains z = true
    · have hzL : z ∈ L := by simpa using hl
      have hlow : low (ixL L z) = true := by
        have := hz.1
        rw [hl] at this
        simpa using this
      have hg : goodN L.length low H1 (ixL L z) = true := by
        simp only [goodN, Bool.or_eq_true, Bool.and_eq_true, decide_eq_true_eq]
        exact .inr ⟨ix_lt hzL, hlow⟩
      have e := (hbk _ hg).1
      have e1 : bkL L nm (ixL L z) = z := by unfold bkL; rw [List.getD_eq_getElem?_getD, ix_at hzL]; rfl
      rw [e1] at e
      rw [e]
      exact r.step.own _ u (by simp only [Bool.and_eq_true, decide_eq_true_eq]; exact ⟨ix_lt hzL, hlow⟩) ((frB_ix hzL).trans hu)
    · rw [hfar z (by simpa using hl) hz.2]; exact hu⟩
  have hmemR : ∀ p, p ∈ restH H L (hasN H1 L.length) nm → p ∈ H ∧ L.contains p.1 = false ∧ (hasN H1 L.length && p.1 == nm) = false := fun p hp => by
    obtain ⟨q1, q2⟩ := List.mem_filter.1 hp
    simp only [Bool.and_eq_true, Bool.not_eq_true'] at q2
    exact ⟨q1, q2.1, q2.2⟩
  have hmemB : ∀ o l, (o, l) ∈ backH L nm H1 → ∃ j ob, (j, ob) ∈ H1 ∧ o = bkL L nm j ∧ l = mpOB (bkL L nm) ob ∧ goodN L.length low H1 j = true := fun o l hp => by
    obtain ⟨⟨j, ob⟩, q1, q2⟩ := List.mem_map.1 hp
    obtain ⟨rfl, rfl⟩ := Prod.mk.inj q2
    refine ⟨j, ob, q1, rfl, rfl, ?_⟩
    simp only [goodN, hasN, Bool.or_eq_true, List.any_eq_true, beq_iff_eq]
    exact .inl ⟨_, q1, rfl⟩
  have hBR : ∀ j, goodN L.length low H1 j = true → L.contains (bkL L nm j) = false → (hasN H1 L.length && bkL L nm j == nm) = false → False := fun j hj h2 h3 => by
    rcases Nat.lt_or_ge j L.length with hlt | hge
    · have e1 : L[j]? = some (bkL L nm j) := by unfold bkL; simp [hlt]
      have := List.mem_of_getElem? e1
      simp [this] at h2
    · have e : j = L.length := Nat.le_antisymm (hle j hj) hge
      subst e
      have hn : hasN H1 L.length = true := by
        simp only [goodN, Bool.or_eq_true, Bool.and_eq_true, decide_eq_true_eq] at hj
        rcases hj with q | ⟨q, _⟩
        · exact q
        · omega
      have e1 : bkL L nm L.length = nm := by unfold bkL; simp
      rw [hn, e1] at h3
      simp at h3
  have hinjB : ∀ j j', goodN L.length low H1 j = true → goodN L.length low H1 j' = true → bkL L nm j = bkL L nm j' → j = j' := fun j j' hj hj' e => by
    rcases Nat.lt_or_ge j L.length with hlt | hge <;> rcases Nat.lt_or_ge j' L.length with hlt' | hge'
    · have e1 : L[j]? = some (bkL L nm j) := by unfold bkL; simp [hlt]
      have e2 : L[j']? = some (bkL L nm j') := by unfold bkL; simp [hlt']
      rw [← nodup_ix hnd e1, e, nodup_ix hnd e2]
    · have e1 : L[j]? = some (bkL L nm j) := by unfold bkL; simp [hlt]
      have e' : j' = L.length := Nat.le_antisymm (hle j' hj') hge'
      subst e'
      have hn : hasN H1 L.length = true := by
        simp only [goodN, Bool.or_eq_true, Bool.and_eq_true, decide_eq_true_eq] at hj'
        rcases hj' with q | ⟨q, _⟩
        · exact q
        · omega
      have e3 : bkL L nm L.length = nm := by unfold bkL; simp
      have q := (hnm hn).2
      rw [← e3, ← e] at q
      exact absurd q (by rw [List.contains_eq_mem, decide_eq_true (List.mem_of_getElem? e1)]; decide)
    · have e1 : L[j']? = some (bkL L nm j') := by unfold bkL; simp [hlt']
      have e' : j = L.length := Nat.le_antisymm (hle j hj) hge
      subst e'
      have hn : hasN H1 L.length = true := by
        simp only [goodN, Bool.or_eq_true, Bool.and_eq_true, decide_eq_true_eq] at hj
        rcases hj with q | ⟨q, _⟩
        · exact q
        · omega
      have e3 : bkL L nm L.length = nm := by unfold bkL; simp
      have q := (hnm hn).2
      rw [← e3, e] at q
      exact absurd q (by rw [List.contains_eq_mem, decide_eq_true (List.mem_of_getElem? e1)]; decide)
    · have := hle j hj; have := hle j' hj'; omega
  refine ⟨⟨?_, ?_, ?_, ?_, h1.lt, ?_⟩, ⟨hstep, ?_, ?_, ?_⟩, ?_⟩
  · intro o l l' q1 q2
    rcases List.mem_append.1 q1 with q1 | q1 <;> rcases List.mem_append.1 q2 with q2 | q2
    · obtain ⟨j, ob, a1, rfl, rfl, a2⟩ := hmemB _ _ q1
      obtain ⟨j', ob', b1, e, rfl, b2⟩ := hmemB _ _ q2
      obtain rfl := hinjB j j' a2 b2 e
      rw [h1.uniq j ob ob' a1 b1]
    · obtain ⟨j, ob, a1, rfl, rfl, a2⟩ := hmemB _ _ q1
      obtain ⟨_, b1, b2⟩ := hmemR _ q2
      exact (hBR j a2 b1 b2).elim
    · obtain ⟨j, ob, a1, rfl, rfl, a2⟩ := hmemB _ _ q2
      obtain ⟨_, b1, b2⟩ := hmemR _ q1
      exact (hBR j a2 b1 b2).elim
    · exact hI.uniq o l l' (hmemR _ q1).1 (hmemR _ q2).1
  · intro o l q1
    rcases List.mem_append.1 q1 with q1 | q1
    · obtain ⟨j, ob, a1, rfl, rfl, a2⟩ := hmemB _ _ q1
      exact ⟨(hbk j a2).2, mpOB_ok (h1.obj j ob a1).2 (List.all_eq_true.1 hgood _ a1) hbk (hbk j a2).1⟩
    · obtain ⟨a1, a2, a3⟩ := hmemR _ q1
      obtain ⟨a4, a5⟩ := hI.obj o l a1
      refine ⟨a4, ob_move a5 hstep (List.all_eq_true.1 hrest _ q1) (fun u hu => (hfar o a2 a3).trans hu) (fun u b hu hb => r.frame b (hI.ltβ o u b hu hb) (fun o' l' u' c1 c2 c3 => hout o u b a2 hu hb o' l' u' c1 c2 c3))⟩
  · intro o u b q1 q2 q3
    rcases hkey o u q1 with ⟨j, _, _, a⟩ | ⟨a1, _, a2⟩
    · exact h1.apart j u b a q2 q3
    · exact hoff o u b a1 a2 q2 q3
  · intro o o' u u' b q1 q2 q3 q4
    rcases hkey o u q1 with ⟨j, a1, rfl, a2⟩ | ⟨a1, a3, a2⟩ <;> rcases hkey o' u' q2 with ⟨j', b1, rfl, b2⟩ | ⟨b1, b3, b2⟩
    · rw [h1.inj j j' u u' b a2 b2 q3 q4]
    · exact (hcross o' u' b j u b1 b2 q4 a1 a2 q3).elim
    · exact (hcross o u b j' u' a1 a2 q3 b1 b2 q4).elim
    · exact hI.inj o o' u u' b a2 b2 q3 q4
  · intro o u b q1 q2
    rcases hkey o u q1 with ⟨j, _, _, a⟩ | ⟨a1, _, a2⟩
    · exact h1.ltβ j u b a q2
    · exact Nat.lt_of_lt_of_le (hI.ltβ o u b a2 q2) r.step.size
  · intro b hb hno
    refine r.frame b hb (fun o l u q1 q2 q3 => ?_)
    obtain ⟨z, ob, a1, a2, _, a3⟩ := subH_mem hs _ q1
    obtain ⟨rfl, rfl⟩ := Prod.mk.inj a3
    rw [frB_ix a1] at q2
    exact hno z ob u a2 q2 q3
  · intro o l u b q1 q2 q3 q4
    rcases List.mem_append.1 q1 with q1 | q1
    · obtain ⟨j, ob, a1, rfl, rfl, a2⟩ := hmemB _ _ q1
      rw [(hbk j a2).1] at q2
      obtain ⟨o0, l0, u0, c1, c2, c3⟩ := r.olds j ob u b a1 q2 q3 q4
      obtain ⟨z, ob', d1, d2, _, d3⟩ := subH_mem hs _ c1
      obtain ⟨rfl, rfl⟩ := Prod.mk.inj d3
      rw [frB_ix d1] at c2
      exact ⟨z, ob', u0, d2, c2, c3⟩
    · obtain ⟨a1, a2, a3⟩ := hmemR _ q1
      rw [hfar o a2 a3] at q2
      exact ⟨o, l, u, a1, q2, q3⟩
  · intro b q1 q2
    rcases r.fresh b q1 q2 with a | ⟨o, l, u, a1, a2, a3⟩
    · exact .inl a
    · obtain ⟨z, ob, d1, d2, _, d3⟩ := subH_mem hs _ a1
      obtain ⟨rfl, rfl⟩ := Prod.mk.inj d3
      rw [frB_ix d1] at a2
      exact .inr ⟨z, ob, u, d2, a2, a3⟩
  · intro v u hv hg
    exact mpV_ok (ok' := fun y => decide (y < nb)) (fun z hz => ⟨(hbk z hz).1, by simpa using (hbk z hz).2⟩) hv.1 hg
end fr
end Go.Proofs.Ytobfnncpjkeloaa.Ev
