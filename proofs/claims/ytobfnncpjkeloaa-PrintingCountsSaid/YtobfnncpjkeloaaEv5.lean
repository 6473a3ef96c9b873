import Derived.Test.YtobfnncpjkeloaaEv4
import Derived.Deep.Quiet
namespace Go.Proofs.Ytobfnncpjkeloaa.Ev
open Go Go.RowKit Go.Proofs.YtobfnncpjkeloaaW.PrintLast
/-! #### memory that is changed; calls -/
/-- From one state to a later one: what is only read stays; own objects of 'ok' stay where they are; of the blocks that were there, those of the objects of H alone are written. -/
structure Run (ok : Nat → Bool) (w : World) (F : Nat → Prop) (β : Blocks) (H : Heap) (w' : World) (F' : Nat → Prop) (β' : Blocks) (H' : Heap) : Prop where
  step : Step ok w F β w' F' β'
  frame : ∀ b, b < w.heap.size → (∀ o l u, (o, l) ∈ H → β o = some u → ¬ Blk u b) → w'.heap[b]? = w.heap[b]?
  olds : ∀ o l u b, (o, l) ∈ H' → β' o = some u → Blk u b → b < w.heap.size → ∃ o0 l0 u0, (o0, l0) ∈ H ∧ β o0 = some u0 ∧ Blk u0 b
  fresh : ∀ b, F' b → b < w.heap.size → F b ∨ ∃ o l u, (o, l) ∈ H ∧ β o = some u ∧ Blk u b
theorem Run.refl (ok : Nat → Bool) (w : World) (F : Nat → Prop) (β : Blocks) (H : Heap) : Run ok w F β H w F β H := ⟨Step.refl _ _ _ _, fun _ _ _ => rfl, fun o l u _ h1 h2 h3 _ => ⟨o, l, u, h1, h2, h3⟩, fun _ h _ => .inl h⟩
theorem Run.trans {ok : Nat → Bool} {w w' w'' : World} {F F' F'' : Nat → Prop} {β β' β'' : Blocks} {H H' H'' : Heap} (h : Run ok w F β H w' F' β' H') (h' : Run ok w' F' β' H' w'' F'' β'' H'') : Run ok w F β H w'' F'' β'' H'' :=
  ⟨h.step.trans h'.step, fun b hb hn => (h'.frame b (Nat.lt_of_lt_of_le hb h.step.size) (fun o l u hm he hk => by
    obtain ⟨o0, l0, u0, h1, h2, h3⟩ := h.olds o l u b hm he hk hb
    exact hn o0 l0 u0 h1 h2 h3)).trans (h.frame b hb hn), fun o l u b hm he hk hb => by
    obtain ⟨o1, l1, u1, h1, h2, h3⟩ := h'.olds o l u b hm he hk (Nat.lt_of_lt_of_le hb h.step.size)
    exact h.olds o1 l1 u1 b h1 h2 h3 hb, fun b hF hb => by
    rcases h'.fresh b hF (Nat.lt_of_lt_of_le hb h.step.size) with h1 | ⟨o, l, u, h1, h2, h3⟩
    · exact h.fresh b h1 hb
    · obtain ⟨o0, l0, u0, h4, h5, h6⟩ := h.olds o l u b h1 h2 h3 hb
      exact .inr ⟨o0, l0, u0, h4, h5, h6⟩⟩
theorem Run.weaken {ok ok' : Nat → Bool} {w w' : World} {F F' : Nat → Prop} {β β' : Blocks} {H H' : Heap} (h : Run ok w F β H w' F' β' H') (hi : ∀ o, ok' o = true → ok o = true) : Run ok' w F β H w' F' β' H' := ⟨h.step.weaken hi, h.frame, h.olds, h.fresh⟩
theorem okG.step {ok : Nat → Bool} {w w' : World} {F F' : Nat → Prop} {β β' : Blocks} {L : Globs} (h : okG w F L) (s : Step ok w F β w' F' β') : okG w' F' L := fun g p hp => ⟨(h g p hp).1, (h g p hp).2.mono s.read⟩
/-- A later world in which all that was there stands: nothing is lost. -/
theorem step_cls (ok : Nat → Bool) {w w' : World} {F : Nat → Prop} {β : Blocks} (hlt : ∀ b, F b → b < w.heap.size) (h : Cls w w') : Step ok w F β w' F β := ⟨h.os, h.tape, h.output, h.size, fun b hb => ⟨hb, h.block b (hlt b hb)⟩, fun _ _ _ he => he⟩
/-- What an object's cells name. -/
def obOk (ok : Nat → Bool) : OB → Bool
  | .box l => l.all (okS ok)
  | .out _ _ b _ => ok b
  | _ => true
section inv
variable {nb : Nat} {w w' : World} {F F' : Nat → Prop} {β β' : Blocks} {H : Heap}
theorem obOk_imp {ok ok' : Nat → Bool} (h : ∀ o, ok o = true → ok' o = true) {ob : OB} (hb : obOk ok ob = true) : obOk ok' ob = true := by
  cases ob with
  | box l => exact List.all_eq_true.2 (fun s hs => okS_imp h (List.all_eq_true.1 hb s hs))
  | out t n b hole => exact h _ hb
  | _ => rfl
theorem ob_has {o : Nat} {l : OB} (h : okOB nb w F β o l) : ∃ u, β o = some u := by
  cases l with
  | box l => obtain ⟨_, b, c, t, q, _⟩ := h; exact ⟨_, q⟩
  | rows t e n row => obtain ⟨v, xs, q, _⟩ := h; exact ⟨_, q⟩
  | mp ki vi val => obtain ⟨r, es, c, q, _⟩ := h; exact ⟨_, q⟩
  | out t n b hole => obtain ⟨_, v, xs, l, q, _⟩ := h; exact ⟨_, q⟩
  | inn t e n st len row => obtain ⟨l, q, _⟩ := h; exact ⟨_, q⟩
  | dead => exact h
theorem ob_names {o : Nat} {l : OB} (h : okOB nb w F β o l) : obOk (fun x => decide (x < nb)) l = true := by
  cases l with
  | box l => exact h.1
  | out t n b hole => exact decide_eq_true h.1
  | _ => rfl
/-- An object whose block stands. -/
theorem ob_move {ok : Nat → Bool} {o : Nat} {l : OB} (h : okOB nb w F β o l) (hs : Step ok w F β w' F' β') (hn : obOk ok l = true) (ho : ∀ u, β o = some u → β' o = some u) (hb : ∀ u b, β o = some u → Blk u b → w'.heap[b]? = w.heap[b]?) : okOB nb w' F' β' o l := by
  cases l with
  | box l =>
    obtain ⟨h1, b, c, t, h2, h3, h4⟩ := h
    exact ⟨h1, b, c, t, ho _ h2, (hb _ b h2 rfl).trans h3, h4.imp (fun s _ hm r => RS.step hs (List.all_eq_true.1 hn s hm) r)⟩
  | rows t e n row =>
    obtain ⟨v, xs, h1, h2, h3⟩ := h
    refine ⟨v, xs, ho _ h1, ⟨h2.1, ?_⟩, fun i j hi hj => ?_⟩
    · rcases h2.2 with h4 | ⟨g, cap, cur, rfl, h5, h6, h7⟩
      · exact .inl h4
      · exact .inr ⟨g, cap, cur, rfl, h5, (hb _ g h1 rfl).trans h6, h7⟩
    · obtain ⟨u, h4, h5⟩ := h3 i j hi hj
      exact ⟨u, h4, h5.mono hs.read⟩
  | mp ki vi val =>
    obtain ⟨r, es, c, h1, h2, h3, h4⟩ := h
    refine ⟨r, es, c, ho _ h1, (hb _ r h1 rfl).trans h2, h3, fun s k hk => ?_⟩
    obtain ⟨v, h5, h6⟩ := h4 s k hk
    exact ⟨v, h5, h6.mono hs.read⟩
  | out t n bn hole =>
    obtain ⟨h0, v, xs, l, h1, h2, h3, h4⟩ := h
    refine ⟨h0, v, xs, l, ho _ h1, ⟨h2.1, ?_⟩, hs.own _ _ hn h3, h4⟩
    rcases h2.2 with h4 | ⟨g, cap, cur, rfl, h5, h6, h7⟩
    · exact .inl h4
    · exact .inr ⟨g, cap, cur, rfl, h5, (hb _ g h1 rfl).trans h6, h7⟩
  | inn t e n st len row =>
    obtain ⟨l, h1, h2, h3, h4⟩ := h
    refine ⟨l, ho _ h1, h2, fun i u hi => ?_, h4⟩
    obtain ⟨q1, q2, xs, q3, q4⟩ := h3 i u hi
    refine ⟨q1, q2, xs, ⟨q3.1, ?_⟩, fun k j hk hj => ?_⟩
    · rcases q3.2 with h4 | ⟨g, cap, cur, rfl, h5, h6, h7⟩
      · exact .inl h4
      · exact .inr ⟨g, cap, cur, rfl, h5, (hb _ g h1 (Blk_tup hi rfl)).trans h6, h7⟩
    · obtain ⟨c, h5, h6⟩ := q4 k j hk hj
      exact ⟨c, h5, h6.mono hs.read⟩
  | dead => obtain ⟨u, hu⟩ := h; exact ⟨u, ho _ hu⟩
theorem Inv.cls (h : Inv nb w F β H) (hc : Cls w w') : Inv nb w' F β H where
  uniq := h.uniq
  obj o l hm := ⟨(h.obj o l hm).1, ob_move (h.obj o l hm).2 (step_cls _ h.lt hc) (ob_names (h.obj o l hm).2) (fun _ h => h) (fun u b h1 h2 => hc.block b (h.ltβ o u b h1 h2))⟩
  apart := h.apart
  inj := h.inj
  lt b hb := Nat.lt_of_lt_of_le (h.lt b hb) hc.size
  ltβ o u b hb hk := Nat.lt_of_lt_of_le (h.ltβ o u b hb hk) hc.size
theorem Inv.nil (h : Inv nb w F β H) : Inv nb w F β [] := ⟨(fun _ _ _ hm => nomatch hm), (fun _ _ hm => nomatch hm), h.apart, h.inj, h.lt, h.ltβ⟩
theorem okS_none {s : PS} (h : okS (fun _ => false) s = true) {v : Value} (β' : Blocks) (r : RS w F β s v) : RS w F β' s v := by
  cases s <;> first | exact r | cases h
theorem okV1_none {s : PV} (h : okV1 (fun _ => false) s = true) {v : Value} (β' : Blocks) (r : RV1 w F β s v) : RV1 w F β' s v := by
  cases s with
  | one s => exact okS_none h β' r
  | agg l => obtain ⟨m, rfl, ha⟩ := r; exact ⟨m, rfl, ha.imp (fun a _ ha r => okS_none (List.all_eq_true.1 h a ha) β' r)⟩
  | fn f l => obtain ⟨m, rfl, ha⟩ := r; exact ⟨m, rfl, ha.imp (fun a _ ha r => okS_none (List.all_eq_true.1 h a ha) β' r)⟩
  | tup l => exact r.elim
/-- What names no object is as it is whatever the objects' names are. -/
theorem RN_none {s : PV} (h : okV (fun _ => false) s = true) {v : Value} (nb' : Nat) (β' : Blocks) (r : RN nb w F β s v) : RN nb' w F β' s v := by
  refine ⟨?_, okV_imp (fun _ h => by cases h) h⟩
  have r := r.1
  cases s with
  | one s => exact okS_none h β' r
  | agg l => obtain ⟨m, rfl, ha⟩ := r; exact ⟨m, rfl, ha.imp (fun a _ ha r => okS_none (List.all_eq_true.1 h a ha) β' r)⟩
  | fn f l => obtain ⟨m, rfl, ha⟩ := r; exact ⟨m, rfl, ha.imp (fun a _ ha r => okS_none (List.all_eq_true.1 h a ha) β' r)⟩
  | tup l => obtain ⟨m, rfl, ha⟩ := r; exact ⟨m, rfl, ha.imp (fun a _ ha r => okV1_none (List.all_eq_true.1 h a ha) β' r)⟩
/-- Behind a call that was given no object, in a name space of its own. -/
theorem Inv.call (h : Inv nb w F β H) {β1 β2 : Blocks} (h' : Inv 0 w' F' β2 []) (r : Run (fun o => decide (o < 0)) w F β1 [] w' F' β2 []) : Inv nb w' F' β H ∧ Run (fun o => decide (o < nb)) w F β H w' F' β H := by
  have hst : Step (fun o => decide (o < nb)) w F β w' F' β := ⟨r.step.os, r.step.tape, r.step.output, r.step.size, r.step.read, fun _ _ _ h => h⟩
  have hfr : ∀ b, F' b → b < w.heap.size → F b := fun b hF hb => (r.fresh b hF hb).elim id (fun ⟨_, _, _, hm, _⟩ => nomatch hm)
  refine ⟨⟨h.uniq, fun o l hm => ⟨(h.obj o l hm).1, ob_move (h.obj o l hm).2 hst (ob_names (h.obj o l hm).2) (fun _ hu => hu) (fun u b h1 h2 => r.frame b (h.ltβ o u b h1 h2) (fun _ _ _ hm => nomatch hm))⟩, fun o u b h1 h2 hF => h.apart o u b h1 h2 (hfr b hF (h.ltβ o u b h1 h2)), h.inj, h'.lt, fun o u b h1 h2 => Nat.lt_of_lt_of_le (h.ltβ o u b h1 h2) r.step.size⟩, ⟨hst, fun b hb _ => r.frame b hb (fun _ _ _ hm => nomatch hm), fun o l u b h1 h2 h3 _ => ⟨o, l, u, h1, h2, h3⟩, fun b hF hb => .inl (hfr b hF hb)⟩⟩
theorem Inv.size (h : Inv nb w F β []) {w' : World} (hs : w.heap.size ≤ w'.heap.size) : Inv nb w' F β [] := ⟨h.uniq, (fun _ _ hm => nomatch hm), h.apart, h.inj, fun b hb => Nat.lt_of_lt_of_le (h.lt b hb) hs, fun o u b h1 h2 => Nat.lt_of_lt_of_le (h.ltβ o u b h1 h2) hs⟩
theorem Inv.start (h : Inv nb w F β H) : Inv 0 w F (fun _ => none) [] := ⟨(fun _ _ _ hm => nomatch hm), (fun _ _ hm => nomatch hm), (fun _ _ _ h => nomatch h), (fun _ _ _ _ _ h => nomatch h), h.lt, (fun _ _ _ h => nomatch h)⟩
end inv
def newH (H : Heap) (o : Nat) (l : OB) : Option Heap := if (obOk (fun x => x != o) l && H.all (fun x => x.1 == o || obOk (fun y => y != o) x.2)) = true then some ((o, l) :: H.filter (fun x => x.1 != o)) else none
def setH (H : Heap) (o : Nat) (l : OB) : Heap := H.map fun x => if x.1 = o then (o, l) else x
section mem
variable {nb : Nat} {w : World} {F : Nat → Prop} {β : Blocks} {H : Heap}
theorem okS_and {p q : Nat → Bool} {s : PS} (h1 : okS p s = true) (h2 : okS q s = true) : okS (fun x => p x && q x) s = true := by cases s <;> simp_all [okS]
def putB (β : Blocks) (o : Nat) (u : Value) : Blocks := fun x => if x = o then some u else β x
theorem putB_same (β : Blocks) (o : Nat) (u : Value) : putB β o u o = some u := if_pos rfl
theorem putB_far (β : Blocks) {o x : Nat} (u : Value) (h : x ≠ o) : putB β o u x = β x := if_neg h
/-- A new object. -/
theorem new_ok (hI : Inv nb w F β H) {o : Nat} {l : OB} {H' : Heap} {u : Value} (ho : o < nb) {w' : World} (hu : ∀ b, Blk u b → w.heap.size ≤ b ∧ b < w'.heap.size) (hcls : Cls w w') (h : newH H o l = some H')
    (hob : Step (fun x => x != o) w F β w' F (putB β o u) → obOk (fun x => x != o) l = true → okOB nb w' F (putB β o u) o l) :
    Inv nb w' F (putB β o u) H' ∧ Run (fun x => x != o) w F β H w' F (putB β o u) H' := by
  unfold newH at h
  split at h
  case isFalse => cases h
  rename_i hq
  obtain rfl := Option.some.inj h
  rw [Bool.and_eq_true] at hq
  have hst : Step (fun x => x != o) w F β w' F (putB β o u) := ⟨hcls.os, hcls.tape, hcls.output, hcls.size, fun b hb => ⟨hb, hcls.block b (hI.lt b hb)⟩, fun x b hx hb => (putB_far β u (by simpa using hx)).trans hb⟩
  have key : ∀ z v, putB β o u z = some v → (z = o ∧ v = u) ∨ (z ≠ o ∧ β z = some v) := fun z v hz => by
    by_cases e : z = o
    · subst e; rw [putB_same] at hz; exact .inl ⟨rfl, (Option.some.inj hz).symm⟩
    · rw [putB_far β u e] at hz; exact .inr ⟨e, hz⟩
  refine ⟨⟨?_, ?_, ?_, ?_, ?_, ?_⟩, ⟨hst, ?_, ?_, fun _ h _ => .inl h⟩⟩
  · intro x m m' hm hm'
    rcases List.mem_cons.1 hm with e | hm <;> rcases List.mem_cons.1 hm' with e' | hm'
    · rw [(Prod.mk.inj e).2, (Prod.mk.inj e').2]
    · have := (List.mem_filter.1 hm').2
      rw [(Prod.mk.inj e).1] at this; simp at this
    · have := (List.mem_filter.1 hm).2
      rw [(Prod.mk.inj e').1] at this; simp at this
    · exact hI.uniq x m m' (List.mem_filter.1 hm).1 (List.mem_filter.1 hm').1
  · intro x m hm
    rcases List.mem_cons.1 hm with e | hm
    · obtain ⟨rfl, rfl⟩ := Prod.mk.inj e
      exact ⟨ho, hob hst hq.1⟩
    · obtain ⟨h1, h2⟩ := List.mem_filter.1 hm
      have hxo : x ≠ o := by simpa using h2
      obtain ⟨h3, h4⟩ := hI.obj x m h1
      have h8 := List.all_eq_true.1 hq.2 (x, m) h1
      have h9 : obOk (fun y => y != o) m = true := by
        rcases Bool.or_eq_true _ _ ▸ h8 with h | h
        · exact absurd (by simpa using h) hxo
        · exact h
      exact ⟨h3, ob_move h4 hst h9 (fun v hv => (putB_far β u hxo).trans hv) (fun v b h5 h6 => hcls.block b (hI.ltβ x v b h5 h6))⟩
  · intro x v b hb hk hF
    rcases key x v hb with ⟨rfl, rfl⟩ | ⟨_, h1⟩
    · have := hI.lt b hF; have := hu b hk; omega
    · exact hI.apart x v b h1 hk hF
  · intro x y v v' b hx hy hk hk'
    rcases key x v hx with ⟨h1, rfl⟩ | ⟨h1, h2⟩ <;> rcases key y v' hy with ⟨h3, rfl⟩ | ⟨h3, h4⟩
    · rw [h1, h3]
    · have := hI.ltβ y v' b h4 hk'; have := hu b hk; omega
    · have := hI.ltβ x v b h2 hk; have := hu b hk'; omega
    · exact hI.inj x y v v' b h2 h4 hk hk'
  · intro b hb; exact Nat.lt_of_lt_of_le (hI.lt b hb) hcls.size
  · intro x v b hb hk
    rcases key x v hb with ⟨_, rfl⟩ | ⟨_, h1⟩
    · exact (hu b hk).2
    · exact Nat.lt_of_lt_of_le (hI.ltβ x v b h1 hk) hcls.size
  · intro b hb _; exact hcls.block b hb
  · intro x m v b hm hx hk hb
    rcases List.mem_cons.1 hm with e | hm
    · obtain ⟨rfl, rfl⟩ := Prod.mk.inj e
      rw [putB_same] at hx
      obtain rfl := Option.some.inj hx
      have := hu b hk; omega
    · obtain ⟨h1, h2⟩ := List.mem_filter.1 hm
      have hxo : x ≠ o := by simpa using h2
      rw [putB_far β u hxo] at hx
      exact ⟨x, m, v, h1, hx, hk⟩
theorem push_cls (w : World) (ob : Obj) : Cls w { w with heap := w.heap.push ob } := ⟨rfl, rfl, rfl, by simp, fun b hb => by
  show (w.heap.push _)[b]? = _
  rw [Array.getElem?_push, if_neg (by omega)]⟩
theorem new_box (hI : Inv nb w F β H) {o : Nat} {l : List PS} {H' : Heap} (ho : o < nb) (hl : l.all (okS (fun x => decide (x < nb))) = true) {c : Array Value} (t : TypeId) (hc : All2 (RS w F β) l c.toList) (h : newH H o (.box l) = some H') :
    Inv nb { w with heap := w.heap.push (.cells c t) } F (putB β o (.pointer (some ⟨w.heap.size, 0, none⟩))) H' ∧ Run (fun x => x != o) w F β H { w with heap := w.heap.push (.cells c t) } F (putB β o (.pointer (some ⟨w.heap.size, 0, none⟩))) H' :=
  new_ok hI ho (fun b hb => Blk_eq (k := w.heap.size) rfl hb ▸ by simp) (push_cls w _) h (fun hst hq => ⟨hl, w.heap.size, c, t, putB_same _ _ _, by simp, hc.imp (fun s _ hs r => RS.step hst (List.all_eq_true.1 hq s hs) r)⟩)
theorem heap_setCells_size (b : Nat) : ∀ (vs : List Value) (o : Nat) (w : World), (w.setCells b o vs).heap.size = w.heap.size
  | [], _, _ => rfl
  | v :: r, o, w => by rw [World.setCells, heap_setCells_size b r]; simp [World.setCell]
theorem heap_setCells_os (b : Nat) : ∀ (vs : List Value) (o : Nat) (w : World), (w.setCells b o vs).os = w.os ∧ (w.setCells b o vs).tape = w.tape ∧ (w.setCells b o vs).output = w.output
  | [], _, _ => ⟨rfl, rfl, rfl⟩
  | v :: r, o, w => by rw [World.setCells]; exact heap_setCells_os b r _ _
theorem heap_setCells_far (b : Nat) : ∀ (vs : List Value) (o : Nat) (w : World) (k : Nat), k ≠ b → (w.setCells b o vs).heap[k]? = w.heap[k]?
  | [], _, _, _, _ => rfl
  | v :: r, o, w, k, h => by rw [World.setCells, heap_setCells_far b r _ _ k h]; exact Below.heap_setCell w _ v k h
theorem heap_setCells_at (b : Nat) (t : TypeId) : ∀ (vs : List Value) (o : Nat) (w : World) (c : Array Value), w.heap[b]? = some (.cells c t (0, 0)) → o + vs.length ≤ c.size →
    ∃ c', (w.setCells b o vs).heap[b]? = some (.cells c' t (0, 0)) ∧ c'.toList = c.toList.take o ++ vs ++ c.toList.drop (o + vs.length)
  | [], o, w, c, h, _ => ⟨c, h, by simp⟩
  | v :: r, o, w, c, h, hl => by
    rw [World.setCells]
    simp only [List.length_cons] at hl
    have h1 : (w.setCell ⟨b, o, none⟩ v).heap[b]? = some (.cells (c.setIfInBounds o v) t (0, 0)) := by
      unfold World.setCell
      simp [Array.getElem?_modify, h]
    obtain ⟨c', h2, h3⟩ := heap_setCells_at b t r (o + 1) _ _ h1 (by simp; omega)
    refine ⟨c', h2, ?_⟩
    rw [h3]
    have hj : o < c.toList.length := by simp; omega
    simp only [Array.toList_setIfInBounds, List.length_cons]
    rw [List.set_eq_take_append_cons_drop, if_pos hj]
    have hlt : (c.toList.take o).length = o := by rw [List.length_take]; omega
    rw [show o + 1 = (c.toList.take o).length + 1 by omega, List.take_length_add_append, List.take_succ_cons, List.take_zero]
    rw [show (c.toList.take o).length + 1 + r.length = (c.toList.take o).length + (1 + r.length) by omega, List.drop_length_add_append, Nat.add_comm 1, List.drop_succ_cons, List.drop_drop]
    simp [Nat.add_assoc, Nat.add_comm 1]
    omega
/-- A store into an object's block: what the object is then is told apart. -/
theorem set_ok (hI : Inv nb w F β H) {o off : Nat} {l l' : OB} (hm : (o, l) ∈ H) {u : Value} {b : Nat} (hb : β o = some u) (hk : Blk u b) (vs : List Value)
    (hob : Step (fun _ => true) w F β (w.setCells b off vs) F β → okOB nb (w.setCells b off vs) F β o l') :
    Inv nb (w.setCells b off vs) F β (setH H o l') ∧ Run (fun _ => true) w F β H (w.setCells b off vs) F β (setH H o l') := by
  have hst : Step (fun _ => true) w F β (w.setCells b off vs) F β := ⟨(heap_setCells_os b vs off w).1, (heap_setCells_os b vs off w).2.1, (heap_setCells_os b vs off w).2.2, by rw [heap_setCells_size]; exact Nat.le_refl _, fun k hF => ⟨hF, heap_setCells_far b vs off w k (fun e => hI.apart o u b hb hk (e ▸ hF))⟩, fun _ _ _ h => h⟩
  have allT : ∀ l, obOk (fun _ => true) l = true := fun l => by
    cases l with
    | box l => exact List.all_eq_true.2 (fun s _ => by cases s <;> rfl)
    | _ => rfl
  refine ⟨⟨?_, ?_, hI.apart, hI.inj, fun k hF => by rw [heap_setCells_size]; exact hI.lt k hF, fun x v k hx hv => by rw [heap_setCells_size]; exact hI.ltβ x v k hx hv⟩, hst, ?_, ?_, fun _ h _ => .inl h⟩
  · intro x m m' hm1 hm2
    obtain ⟨⟨x0, m0⟩, h1, h2⟩ := List.mem_map.1 hm1
    obtain ⟨⟨x1, m1⟩, h3, h4⟩ := List.mem_map.1 hm2
    by_cases e : x0 = o <;> by_cases e' : x1 = o
    · rw [if_pos e] at h2; rw [if_pos e'] at h4
      rw [← (Prod.mk.inj h2).2, ← (Prod.mk.inj h4).2]
    · rw [if_pos e] at h2; rw [if_neg e'] at h4
      exact absurd ((Prod.mk.inj h4).1.trans (Prod.mk.inj h2).1.symm) e'
    · rw [if_neg e] at h2; rw [if_pos e'] at h4
      exact absurd ((Prod.mk.inj h2).1.trans (Prod.mk.inj h4).1.symm) e
    · rw [if_neg e] at h2; rw [if_neg e'] at h4
      obtain ⟨rfl, rfl⟩ := Prod.mk.inj h2
      obtain ⟨rfl, rfl⟩ := Prod.mk.inj h4
      exact hI.uniq _ _ _ h1 h3
  · intro x m hxm
    obtain ⟨⟨x0, m0⟩, h1, h2⟩ := List.mem_map.1 hxm
    by_cases e : x0 = o
    · subst e
      rw [if_pos rfl] at h2
      obtain ⟨rfl, rfl⟩ := Prod.mk.inj h2
      exact ⟨(hI.obj x0 l hm).1, hob hst⟩
    · rw [if_neg e] at h2
      obtain ⟨rfl, rfl⟩ := Prod.mk.inj h2
      obtain ⟨h3, h4⟩ := hI.obj x0 m0 h1
      exact ⟨h3, ob_move h4 hst (allT _) (fun _ h => h) (fun v b1 h5 h6 => heap_setCells_far b vs off w b1 (fun e1 => e (hI.inj x0 o v u b h5 hb (e1 ▸ h6) hk)))⟩
  · intro k _ hkn
    exact heap_setCells_far b vs off w k (fun e => hkn o l u hm hb (e ▸ hk))
  · intro x m v k hxm hxk hv _
    obtain ⟨⟨x0, m0⟩, h1, h2⟩ := List.mem_map.1 hxm
    by_cases e : x0 = o
    · subst e
      rw [if_pos rfl] at h2
      obtain ⟨rfl, rfl⟩ := Prod.mk.inj h2
      exact ⟨_, m0, v, h1, hxk, hv⟩
    · rw [if_neg e] at h2
      obtain ⟨rfl, rfl⟩ := Prod.mk.inj h2
      exact ⟨_, m0, v, h1, hxk, hv⟩
theorem set_box (hI : Inv nb w F β H) {o off : Nat} {cells vl : List PS} (hm : (o, .box cells) ∈ H) {b : Nat} (hb : β o = some (.pointer (some ⟨b, 0, none⟩))) {vs : List Value} (hv : All2 (RS w F β) vl vs) (hn : vl.all (okS (fun x => decide (x < nb))) = true) (hlen : off + vl.length ≤ cells.length) :
    w.there b off vs.length ∧ Inv nb (w.setCells b off vs) F β (setH H o (.box (cells.take off ++ vl ++ cells.drop (off + vl.length)))) ∧ Run (fun _ => true) w F β H (w.setCells b off vs) F β (setH H o (.box (cells.take off ++ vl ++ cells.drop (off + vl.length)))) := by
  obtain ⟨_, hcn, b', c, t, hb', hh, hc⟩ := hI.obj o _ hm
  obtain rfl := ptr_inj hb hb'
  have e1 : vl.length = vs.length := hv.length
  have e2 : cells.length = c.size := by simpa using hc.length
  have allT : ∀ s, okS (fun _ => true) s = true := fun s => by cases s <;> rfl
  refine ⟨fun j hj => ⟨?_, ?_⟩, set_ok hI hm hb rfl vs (fun hst => ?_)⟩
  · rw [cell_of_row w b (off + j) c t (0, 0) hh]
    rw [Array.getElem?_eq_getElem (by omega)]; rfl
  · unfold World.frozen?
    simp [hh]
  · obtain ⟨c', h3, h4⟩ := heap_setCells_at b t vs off w c hh (by omega)
    refine ⟨?_, b, c', t, hb, h3, ?_⟩
    · simp only [List.all_append, Bool.and_eq_true]
      refine ⟨⟨?_, hn⟩, ?_⟩ <;> rw [List.all_eq_true] at hcn ⊢ <;> intro s hs
      · exact hcn s (List.mem_of_mem_take hs)
      · exact hcn s (List.mem_of_mem_drop hs)
    · rw [h4, ← e1]
      exact (((hc.take _).app hv).app (hc.drop _)).imp (fun s v _ r => RS.step hst (allT s) r)
end mem
end Go.Proofs.Ytobfnncpjkeloaa.Ev
