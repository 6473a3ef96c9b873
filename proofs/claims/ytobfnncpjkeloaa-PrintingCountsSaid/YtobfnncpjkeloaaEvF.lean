/- Rows of own rows: a row of headers (out) and the bundle of the rows themselves (inn). What is made of them, grown, stored. Not trusted: Lean checks it. -/
import Derived.Test.YtobfnncpjkeloaaEv5e
namespace Go.Proofs.Ytobfnncpjkeloaa.Ev
open Go Go.RowKit Go.Proofs.YtobfnncpjkeloaaW.PrintLast
def killL (ch : List Nat) (l : OB) : OB := ch.foldl (fun l o => killOB o l) l
def killC (ch : List Nat) (H : Heap) : Heap := (H.filter fun x => !ch.contains x.1).map fun x => (x.1, killL ch x.2)
/-- The objects of wr are made anew (news); the names of ch are void in the others. -/
def chgH (ch wr : List Nat) (news H : Heap) : Heap := news ++ killC ch (H.filter fun x => !wr.contains x.1)
section fam
variable {nb : Nat} {w w' : World} {F : Nat → Prop} {β β' : Blocks} {H : Heap}
theorem killOB_names {o : Nat} {l : OB} {ok : Nat → Bool} (h : obOk ok l = true) : obOk ok (killOB o l) = true := by
  cases l with
  | box l =>
    show (l.map (killS o)).all (okS ok) = true
    rw [List.all_eq_true]
    intro s hs
    obtain ⟨s0, h1, rfl⟩ := List.mem_map.1 hs
    exact killS_names (List.all_eq_true.1 h s0 h1)
  | out t n b hole =>
    by_cases hb : b = o
    · rw [show killOB o (.out t n b hole) = .dead from if_pos hb]; rfl
    · rw [show killOB o (.out t n b hole) = .out t n b hole from if_neg hb]; exact h
  | _ => rfl
theorem killL_names {ok : Nat → Bool} : ∀ {ch : List Nat} {l : OB}, obOk ok l = true → obOk ok (killL ch l) = true
  | [], _, h => h
  | _ :: ch, _, h => killL_names (ch := ch) (killOB_names h)
theorem killL_ok {x : Nat} : ∀ {ch : List Nat} {l : OB}, okOB nb w F β x l → okOB nb w F β x (killL ch l) ∧ ∀ o ∈ ch, obOk (fun y => y != o) (killL ch l) = true
  | [], _, h => ⟨h, fun _ h => nomatch h⟩
  | o :: ch, l, h => by
    obtain ⟨h1, h2⟩ := kill_ok (o := o) h
    obtain ⟨h3, h4⟩ := killL_ok (ch := ch) h1
    refine ⟨h3, fun y hy => ?_⟩
    rcases List.mem_cons.1 hy with rfl | hy
    · exact killL_names (l := killOB y l) h2
    · exact h4 y hy
theorem obOk_all {ch : List Nat} {l : OB} (h : ∀ o ∈ ch, obOk (fun y => y != o) l = true) : obOk (fun y => !ch.contains y) l = true := by
  cases l with
  | box l =>
    refine List.all_eq_true.2 (fun s hs => ?_)
    have h1 : ∀ o ∈ ch, okS (fun y => y != o) s = true := fun o ho => List.all_eq_true.1 (h o ho) s hs
    cases s <;> first | rfl | (simp only [okS, bne_iff_ne, ne_eq] at h1 ⊢; simpa using fun hc => h1 _ hc rfl)
  | out _ _ b _ =>
    have h1 : ∀ o ∈ ch, (b != o) = true := h
    simpa [obOk] using fun hc => by simpa using h1 b hc
  | _ => rfl
theorem killC_mem {ch : List Nat} {x : Nat} {l : OB} (h : (x, l) ∈ killC ch H) : x ∉ ch ∧ ∃ l0, (x, l0) ∈ H ∧ l = killL ch l0 := by
  obtain ⟨⟨x0, l0⟩, h1, h2⟩ := List.mem_map.1 h
  obtain ⟨rfl, rfl⟩ := Prod.mk.inj h2
  obtain ⟨h3, h4⟩ := List.mem_filter.1 h1
  exact ⟨by simpa using h4, l0, h3, rfl⟩
theorem chg_ok (hI : Inv nb w F β H) {ch wr : List Nat} {news : Heap} 
    (hw : w'.os = w.os ∧ w'.tape = w.tape ∧ w'.output = w.output) (hsize : w.heap.size ≤ w'.heap.size)
    (hwr : ∀ b, b < w.heap.size → (∀ o l u, o ∈ wr → (o, l) ∈ H → β o = some u → ¬ Blk u b) → w'.heap[b]? = w.heap[b]?)
    (hβ : ∀ z, z ∉ ch → β' z = β z)
    (hnew : ∀ z u b, z ∈ ch → β' z = some u → Blk u b → (w.heap.size ≤ b ∧ b < w'.heap.size) ∨ ∃ o l v, o ∈ ch ∧ (o, l) ∈ H ∧ β o = some v ∧ Blk v b)
    (hinj : ∀ z z' u u' b, z ∈ ch → z' ∈ ch → β' z = some u → β' z' = some u' → Blk u b → Blk u' b → z = z')
    (hn1 : ∀ o l, (o, l) ∈ news → o ∈ wr) (huniq : ∀ o l l', (o, l) ∈ news → (o, l') ∈ news → l = l')
    (hold : ∀ o l, (o, l) ∈ news → o ∉ ch → ∃ l0, (o, l0) ∈ H)
    (hobj : Step (fun z => !ch.contains z) w F β w' F β' → ∀ o l, (o, l) ∈ news → o < nb ∧ okOB nb w' F β' o l) :
    Inv nb w' F β' (chgH ch wr news H) ∧ Run (fun z => !ch.contains z) w F β H w' F β' (chgH ch wr news H) := by
  have hst : Step (fun z => !ch.contains z) w F β w' F β' := ⟨hw.1, hw.2.1, hw.2.2, hsize, fun b hb => ⟨hb, hwr b (hI.lt b hb) (fun o l u _ _ h1 h2 => hI.apart o u b h1 h2 hb)⟩, fun z u hz hu => by
    rw [hβ z (by simpa using hz)]; exact hu⟩
  have hrest : ∀ {x l}, (x, l) ∈ killC ch (H.filter fun x => !wr.contains x.1) → x ∉ ch ∧ x ∉ wr ∧ ∃ l0, (x, l0) ∈ H ∧ l = killL ch l0 := fun {x l} h => by
    obtain ⟨h1, l0, h2, h3⟩ := killC_mem h
    obtain ⟨h4, h5⟩ := List.mem_filter.1 h2
    exact ⟨h1, by simpa using h5, l0, h4, h3⟩
  refine ⟨⟨?_, ?_, ?_, ?_, ?_, ?_⟩, ⟨hst, ?_, ?_, fun _ h _ => .inl h⟩⟩
  · intro o l l' h1 h2
    rcases List.mem_append.1 h1 with h1 | h1 <;> rcases List.mem_append.1 h2 with h2 | h2
    · exact huniq o l l' h1 h2
    · exact absurd (hn1 o l h1) (hrest h2).2.1
    · exact absurd (hn1 o l' h2) (hrest h1).2.1
    · obtain ⟨_, _, l0, h3, rfl⟩ := hrest h1
      obtain ⟨_, _, l1, h4, rfl⟩ := hrest h2
      rw [hI.uniq o l0 l1 h3 h4]
  · intro o l h1
    rcases List.mem_append.1 h1 with h1 | h1
    · exact hobj hst o l h1
    · obtain ⟨h2, h3, l0, h4, rfl⟩ := hrest h1
      obtain ⟨h5, h6⟩ := hI.obj o l0 h4
      obtain ⟨h7, h8⟩ := killL_ok (ch := ch) h6
      refine ⟨h5, ob_move h7 hst (obOk_all h8) (fun u hu => by rw [hβ o h2]; exact hu) (fun u b hu hb => hwr b (hI.ltβ o u b hu hb) (fun o1 l1 u1 q1 q2 q3 q4 => ?_))⟩
      exact h3 ((hI.inj o1 o u1 u b q3 hu q4 hb) ▸ q1)
  · intro z u b hz hb hF
    by_cases hc : z ∈ ch
    · rcases hnew z u b hc hz hb with h | ⟨o, l, v, _, _, h1, h2⟩
      · have := hI.lt b hF; omega
      · exact hI.apart o v b h1 h2 hF
    · rw [hβ z hc] at hz; exact hI.apart z u b hz hb hF
  · intro z z' u u' b hz hz' hb hb'
    by_cases hc : z ∈ ch <;> by_cases hc' : z' ∈ ch
    · exact hinj z z' u u' b hc hc' hz hz' hb hb'
    · rw [hβ z' hc'] at hz'
      rcases hnew z u b hc hz hb with h | ⟨o, l, v, h0, _, h1, h2⟩
      · have := hI.ltβ z' u' b hz' hb'; omega
      · exact absurd ((hI.inj z' o u' v b hz' h1 hb' h2) ▸ h0) hc'
    · rw [hβ z hc] at hz
      rcases hnew z' u' b hc' hz' hb' with h | ⟨o, l, v, h0, _, h1, h2⟩
      · have := hI.ltβ z u b hz hb; omega
      · exact absurd ((hI.inj z o u v b hz h1 hb h2) ▸ h0) hc
    · rw [hβ z hc] at hz; rw [hβ z' hc'] at hz'
      exact hI.inj z z' u u' b hz hz' hb hb'
  · intro b hF; exact Nat.lt_of_lt_of_le (hI.lt b hF) hsize
  · intro z u b hz hb
    by_cases hc : z ∈ ch
    · rcases hnew z u b hc hz hb with h | ⟨o, l, v, _, _, h1, h2⟩
      · exact h.2
      · exact Nat.lt_of_lt_of_le (hI.ltβ o v b h1 h2) hsize
    · rw [hβ z hc] at hz; exact Nat.lt_of_lt_of_le (hI.ltβ z u b hz hb) hsize
  · intro b hb hn
    exact hwr b hb (fun o l u _ h1 h2 => hn o l u h1 h2)
  · intro o l u b h1 h2 h3 hlt
    by_cases hc : o ∈ ch
    · rcases hnew o u b hc h2 h3 with h | ⟨o1, l1, v, _, h4, h5, h6⟩
      · omega
      · exact ⟨o1, l1, v, h4, h5, h6⟩
    · rw [hβ o hc] at h2
      rcases List.mem_append.1 h1 with h1 | h1
      · obtain ⟨l0, h4⟩ := hold o l h1 hc
        exact ⟨o, l0, u, h4, h2, h3⟩
      · obtain ⟨_, _, l0, h4, _⟩ := hrest h1
        exact ⟨o, l0, u, h4, h2, h3⟩
/-- One row of a bundle. -/
def Inn1 (w : World) (F : Nat → Prop) (t e : Nat) (s : Bool) (n : Nat) (row : Nat → Nat → PS) (u : Value) : Prop := (s = false → u = .slice none 0 0) ∧ (s = true → ∃ b, blk u = some b) ∧ ∃ xs, w.ownsRow 0 t e u n xs ∧ ∀ k j, k < n → j < e → ∃ c, xs[k * e + j]? = some c ∧ RF w F (row k j) c
def InnD (l : List Value) : Prop := ∀ (i i' : Nat) (u u' : Value) (b : Nat), l[i]? = some u → l[i']? = some u' → blk u = some b → blk u' = some b → i = i'
theorem inn_mk {o t e n : Nat} {st : Nat → Bool} {len : Nat → Nat} {row : Nat → Nat → Nat → PS} {l : List Value} (h1 : β o = some (.tuple l.toArray)) (h2 : l.length = n) (h3 : ∀ i u, l[i]? = some u → Inn1 w F t e (st i) (len i) (row i) u) (h4 : InnD l) : okOB nb w F β o (.inn t e n st len row) := ⟨l, h1, h2, h3, h4⟩
theorem inn_of {o t e n : Nat} {st : Nat → Bool} {len : Nat → Nat} {row : Nat → Nat → Nat → PS} (h : okOB nb w F β o (.inn t e n st len row)) : ∃ l : List Value, β o = some (.tuple l.toArray) ∧ l.length = n ∧ (∀ i u, l[i]? = some u → Inn1 w F t e (st i) (len i) (row i) u) ∧ InnD l := h
theorem inn1_move {t e n : Nat} {s : Bool} {row : Nat → Nat → PS} {u : Value} (h : Inn1 w F t e s n row u) (hr : ∀ b, F b → F b ∧ w'.heap[b]? = w.heap[b]?) (hb : ∀ b, blk u = some b → w'.heap[b]? = w.heap[b]?) : Inn1 w' F t e s n row u := by
  obtain ⟨q1, q2, xs, q3, q4⟩ := h
  refine ⟨q1, q2, xs, ⟨q3.1, ?_⟩, fun k j hk hj => ?_⟩
  · rcases q3.2 with h4 | ⟨g, cap, cur, rfl, h5, h6, h7⟩
    · exact .inl h4
    · exact .inr ⟨g, cap, cur, rfl, h5, (hb g rfl).trans h6, h7⟩
  · obtain ⟨c, h5, h6⟩ := q4 k j hk hj
    exact ⟨c, h5, h6.mono hr⟩
theorem inn1_hdr {t e n : Nat} {s : Bool} {row : Nat → Nat → PS} {u : Value} (h : Inn1 w F t e s n row u) : hdrV u = true := by
  obtain ⟨_, _, xs, q3, _⟩ := h
  rcases q3.2 with ⟨rfl, _⟩ | ⟨g, cap, cur, rfl, _⟩ <;> rfl
theorem rows_inn {o t e n : Nat} {row : Nat → Nat → PS} {u : Value} (h : okOB nb w F β o (.rows t e n row)) (hu : β o = some u) (h0 : 0 < n) : Inn1 w F t e true n row u := by
  obtain ⟨v, xs, h1, h2, h3⟩ := h
  rw [hu] at h1
  obtain rfl := Option.some.inj h1
  refine ⟨fun h => (nomatch h), fun _ => ?_, xs, h2, h3⟩
  rcases h2.2 with ⟨_, h⟩ | ⟨g, cap, cur, rfl, _⟩
  · omega
  · exact ⟨g, rfl⟩
theorem blk_hdr {u : Value} {b : Nat} (h : hdrV u = true) (hb : Blk u b) : blk u = some b := by
  unfold Blk at hb
  split at hb
  · cases h
  · exact hb
theorem Blk_tupD {l : List Value} {b : Nat} (h : Blk (.tuple l.toArray) b) : ∃ (i : Nat) (u : Value), l[i]? = some u ∧ blk u = some b := by
  obtain ⟨u, h1, h2⟩ := h
  obtain ⟨i, hi, rfl⟩ := List.getElem_of_mem (show u ∈ l by simpa using h1)
  exact ⟨i, _, List.getElem?_eq_getElem hi, h2⟩
/-- A slice literal of one own row. -/
theorem litF_ok (hI : Inv nb w F β H) {o bn r te te2 e2 n2 : Nat} {row2 : Nat → Nat → PS} {u : Value} (ho : o < nb) (hbn : bn < nb) (h1 : o ≠ bn) (h2 : o ≠ r) (h3 : bn ≠ r) (hm : (r, .rows te2 e2 n2 row2) ∈ H) (hu : β r = some u) (h0 : 0 < n2) :
    ∃ β', β' o = some (.slice (some ⟨w.heap.size, 0, none⟩) 1 1) ∧ Inv nb { w with heap := w.heap.push (.cells #[u] te) } F β' (chgH [o, bn, r] [o, bn, r] [(o, .out te 1 bn none), (bn, .inn te2 e2 1 (fun _ => true) (fun _ => n2) (fun _ => row2))] H) ∧
      Run (fun z => !([o, bn, r] : List Nat).contains z) w F β H { w with heap := w.heap.push (.cells #[u] te) } F β' (chgH [o, bn, r] [o, bn, r] [(o, .out te 1 bn none), (bn, .inn te2 e2 1 (fun _ => true) (fun _ => n2) (fun _ => row2))] H) := by
  have hO := (hI.obj r _ hm).2
  have hi1 := rows_inn hO hu h0
  have hh := inn1_hdr hi1
  have hc := push_cls w (.cells #[u] te)
  have b1 : ∀ z, putB (putB (offB r β) bn (.tuple [u].toArray)) o (.slice (some ⟨w.heap.size, 0, none⟩) 1 1) z = if z = o then some (.slice (some ⟨w.heap.size, 0, none⟩) 1 1) else if z = bn then some (.tuple [u].toArray) else if z = r then none else β z := fun z => rfl
  refine ⟨putB (putB (offB r β) bn (.tuple [u].toArray)) o (.slice (some ⟨w.heap.size, 0, none⟩) 1 1), by rw [b1, if_pos rfl], chg_ok hI ⟨hc.os, hc.tape, hc.output⟩ hc.size (fun b hb _ => hc.block b hb) ?_ ?_ ?_ ?_ ?_ ?_ ?_⟩
  · intro z hz
    simp only [List.mem_cons, List.not_mem_nil, or_false, not_or] at hz
    rw [b1, if_neg hz.1, if_neg hz.2.1, if_neg hz.2.2]
  · intro z v b hz hv hb
    rw [b1] at hv
    split at hv
    · obtain rfl := Option.some.inj hv
      exact .inl (Blk_eq (k := w.heap.size) rfl hb ▸ by simp)
    · split at hv
      · obtain rfl := Option.some.inj hv
        obtain ⟨i, u', h5, h6⟩ := Blk_tupD hb
        have : u' = u := by
          cases i with
          | zero => simpa using h5.symm
          | succ i => simp at h5
        subst this
        exact .inr ⟨r, _, u', by simp, hm, hu, Blk_of h6⟩
      · split at hv
        · cases hv
        · rename_i q1 q2 q3; simp [q1, q2, q3] at hz
  · intro z z' v v' b _ _ hv hv' hb hb'
    have old : ∀ {x b}, Blk (.tuple [x].toArray) b → x = u → b < w.heap.size := fun {x b} hb hx => by
      obtain ⟨i, u', h5, h6⟩ := Blk_tupD hb
      have : u' = u := by
        cases i with
        | zero => rw [← hx]; simpa using h5.symm
        | succ i => simp at h5
      subst this
      exact hI.ltβ r u' b hu (Blk_of h6)
    rw [b1] at hv hv'
    split at hv <;> split at hv'
    · rename_i e1 e2; rw [e1, e2]
    · obtain rfl := Option.some.inj hv
      have hb := Blk_eq (k := w.heap.size) rfl hb
      split at hv'
      · obtain rfl := Option.some.inj hv'; have := old hb' rfl; omega
      · split at hv'
        · cases hv'
        · have := hI.ltβ z' v' b hv' hb'; omega
    · obtain rfl := Option.some.inj hv'
      have hb' := Blk_eq (k := w.heap.size) rfl hb'
      split at hv
      · obtain rfl := Option.some.inj hv; have := old hb rfl; omega
      · split at hv
        · cases hv
        · have := hI.ltβ z v b hv hb; omega
    · rename_i q1 q2
      split at hv <;> split at hv'
      · rename_i e1 e2; rw [e1, e2]
      · rename_i q3 q4
        split at hv'
        · cases hv'
        · rename_i q5; rename_i hz1 hz2; simp [q2, q4, q5] at hz2
      · rename_i q3 q4
        split at hv
        · cases hv
        · rename_i q5; rename_i hz1 hz2; simp [q1, q3, q5] at hz1
      · rename_i q3 q4
        split at hv
        · cases hv
        · rename_i q5; rename_i hz1 hz2; simp [q1, q3, q5] at hz1
  · intro z l hz
    simp only [List.mem_cons, List.not_mem_nil, or_false, Prod.mk.injEq] at hz ⊢
    rcases hz with ⟨rfl, _⟩ | ⟨rfl, _⟩ <;> simp
  · intro z l l' hz hz'
    simp only [List.mem_cons, List.not_mem_nil, or_false, Prod.mk.injEq] at hz hz'
    rcases hz with ⟨rfl, rfl⟩ | ⟨rfl, rfl⟩ <;> rcases hz' with ⟨h5, rfl⟩ | ⟨h5, rfl⟩
    · rfl
    · exact absurd h5 h1
    · exact absurd h5.symm h1
    · rfl
  · intro z l hz hn
    simp only [List.mem_cons, List.not_mem_nil, or_false, Prod.mk.injEq] at hz
    rcases hz with ⟨rfl, _⟩ | ⟨rfl, _⟩ <;> simp at hn
  · intro hst z l hz
    simp only [List.mem_cons, List.not_mem_nil, or_false, Prod.mk.injEq] at hz
    rcases hz with ⟨rfl, rfl⟩ | ⟨rfl, rfl⟩
    · refine ⟨ho, hbn, .slice (some ⟨w.heap.size, 0, none⟩) 1 1, [u], [u], by rw [b1, if_pos rfl], ⟨rfl, .inr ⟨w.heap.size, 1, #[u], rfl, Nat.zero_le _, by simp, Nat.le_refl _, by decide, rfl, rfl⟩⟩, by rw [b1, if_neg h1.symm, if_pos rfl], rfl, fun v hv => by rw [List.mem_singleton.1 hv]; exact hh, fun _ _ _ => rfl⟩
    · refine ⟨hbn, inn_mk (l := [u]) (by rw [b1, if_neg h1.symm, if_pos rfl]) rfl (fun i v hv => ?_) (fun i i' v v' b hv hv' _ _ => ?_)⟩
      · have e : v = u := by
          cases i with
          | zero => simpa using hv.symm
          | succ i => simp at hv
        rw [e]
        exact inn1_move hi1 (fun b hb => hst.read b hb) (fun b hb => hc.block b (hI.ltβ r u b hu (Blk_of hb)))
      · cases i <;> cases i' <;> simp_all
def upN {α : Type} (f : Nat → α) (i : Nat) (a : α) : Nat → α := fun j => bif j == i then a else f j
def appN {α : Type} (n : Nat) (f g : Nat → α) : Nat → α := fun j => bif decide (j < n) then f j else g (j - n)
theorem upN_eq {α : Type} (f : Nat → α) (i : Nat) (a : α) (j : Nat) : upN f i a j = if j = i then a else f j := by
  unfold upN; by_cases h : j = i
  · simp [h]
  · rw [if_neg h, show (j == i) = false by simpa using h]; rfl
theorem appN_eq {α : Type} (n : Nat) (f g : Nat → α) (j : Nat) : appN n f g j = if j < n then f j else g (j - n) := by
  unfold appN; by_cases h : j < n
  · simp [h]
  · rw [if_neg h, show decide (j < n) = false by simpa using h]; rfl
theorem inn1_nil {t e : Nat} {row : Nat → Nat → PS} : Inn1 w F t e false 0 row (.slice none 0 0) := ⟨fun _ => rfl, fun h => (nomatch h), [], ⟨by simp, .inl ⟨rfl, rfl⟩⟩, fun k j hk => by omega⟩
theorem own_blk {base t e n : Nat} {v : Value} {xs : List Value} (h : w.ownsRow base t e v n xs) : v.ownBlock = blk v := (owns_blk h).symm
theorem own_lt {base t e n b : Nat} {v : Value} {xs : List Value} (h : w.ownsRow base t e v n xs) (hb : blk v = some b) : b < w.heap.size := by
  rcases h.2 with ⟨rfl, _⟩ | ⟨g, cap, cur, rfl, _, hh, _⟩
  · cases hb
  · have e : g = b := by simpa [blk] using hb
    subst e
    rcases Nat.lt_or_ge g w.heap.size with h | h
    · exact h
    · rw [Array.getElem?_eq_none h] at hh; cases hh
/-- An own row goes to a place of a row of rows. -/
theorem putF_ok (hI : Inv nb w F β H) {o b r t n te e n' n2 i : Nat} {hole : Option Nat} {st : Nat → Bool} {len : Nat → Nat} {row : Nat → Nat → Nat → PS} {row2 : Nat → Nat → PS} {u : Value} {bo n1 c1 : Nat}
    (hmo : (o, .out t n b hole) ∈ H) (hmb : (b, .inn te e n' st len row) ∈ H) (hmr : (r, .rows te e n2 row2) ∈ H) (hi : i < n) (hh : hole = none ∨ hole = some i) (h0 : 0 < n2) (hbo : β o = some (.slice (some ⟨bo, 0, none⟩) n1 c1)) (hu : β r = some u) :
    w.there bo (i * 1 + 0) 1 ∧ ∃ β', β' o = β o ∧ Inv nb (w.setCells bo (i * 1 + 0) [u]) F β' (chgH [b, r] [b, r, o] [(o, .out t n b none), (b, .inn te e n' (upN st i true) (upN len i n2) (upN row i row2))] H) ∧
      Run (fun z => !([b, r] : List Nat).contains z) w F β H (w.setCells bo (i * 1 + 0) [u]) F β' (chgH [b, r] [b, r, o] [(o, .out t n b none), (b, .inn te e n' (upN st i true) (upN len i n2) (upN row i row2))] H) := by
  have nob : o ≠ b := by rintro rfl; cases hI.uniq _ _ _ hmo hmb
  have nor : o ≠ r := by rintro rfl; cases hI.uniq _ _ _ hmo hmr
  have nbr : b ≠ r := by rintro rfl; cases hI.uniq _ _ _ hmb hmr
  obtain ⟨hlo, hO⟩ := hI.obj o _ hmo
  obtain ⟨hlb, hB⟩ := hI.obj b _ hmb
  have hi1 := rows_inn (hI.obj r _ hmr).2 hu h0
  have hhu := inn1_hdr hi1
  obtain ⟨_, v, xs, l, q1, q2, q3, q4, q5, q6⟩ := hO
  obtain ⟨l', q7, q8, q9, q10⟩ := inn_of hB
  obtain rfl := tup_inj q3 q7
  rw [hbo] at q1
  obtain rfl := Option.some.inj q1
  rcases q2.2 with ⟨h4, _⟩ | ⟨g, cap, cur, h4, hg, hc, hcap, hmax, hsz, htake⟩
  · cases h4
  cases h4
  have hu1 : u.oneCell' = true := hdr_one hhu
  have hil : i < l.length := by omega
  refine ⟨fun j hj => ⟨?_, ?_⟩, ?_⟩
  · obtain rfl : j = 0 := by omega
    rw [cell_of_row w bo (i * 1 + 0 + 0) cur t (0, 0) hc]
    rw [Array.getElem?_eq_getElem (by omega)]; rfl
  · unfold World.frozen?
    simp [hc]
  obtain ⟨c2, h5, h6⟩ := heap_setCells_at bo t [u] (i * 1 + 0) w cur hc (by simp; omega)
  have hl2 : c2.size = cur.size := by
    have := congrArg List.length h6
    simp at this
    omega
  have far : ∀ k, k ≠ bo → (w.setCells bo (i * 1 + 0) [u]).heap[k]? = w.heap[k]? := fun k hk => heap_setCells_far bo [u] _ w k hk
  have b1 : ∀ z, putB (offB r β) b (.tuple (l.set i u).toArray) z = if z = b then some (.tuple (l.set i u).toArray) else if z = r then none else β z := fun z => rfl
  refine ⟨putB (offB r β) b (.tuple (l.set i u).toArray), by rw [b1, if_neg nob, if_neg nor], chg_ok hI ⟨(heap_setCells_os bo [u] _ w).1, (heap_setCells_os bo [u] _ w).2.1, (heap_setCells_os bo [u] _ w).2.2⟩ (by rw [heap_setCells_size]; exact Nat.le_refl _) (fun k _ hk => far k (fun e => hk o _ _ (by simp) hmo hbo (by rw [e]; rfl))) ?_ ?_ ?_ ?_ ?_ ?_ ?_⟩
  · intro z hz
    simp only [List.mem_cons, List.not_mem_nil, or_false, not_or] at hz
    rw [b1, if_neg hz.1, if_neg hz.2]
  · intro z v k _ hv hb
    rw [b1] at hv
    split at hv
    · obtain rfl := Option.some.inj hv
      obtain ⟨j, u', h7, h8⟩ := Blk_tupD hb
      by_cases e : i = j
      · subst e
        rw [List.getElem?_set_self hil] at h7
        obtain rfl := Option.some.inj h7
        exact .inr ⟨r, _, u, by simp, hmr, hu, Blk_of h8⟩
      · rw [List.getElem?_set_ne e] at h7
        exact .inr ⟨b, _, _, by simp, hmb, q7, Blk_tup h7 h8⟩
    · split at hv
      · cases hv
      · rename_i hz q1 q2; simp [q1, q2] at hz
  · intro z z' v v' k hz hz' hv hv' _ _
    rw [b1] at hv hv'
    have e : ∀ y x, y ∈ [b, r] → (if y = b then some (Value.tuple (l.set i u).toArray) else if y = r then none else β y) = some x → y = b := fun y x hy hx => by
      simp only [List.mem_cons, List.not_mem_nil, or_false] at hy
      rcases hy with rfl | rfl
      · rfl
      · rw [if_neg nbr.symm, if_pos rfl] at hx; cases hx
    rw [e z v hz hv, e z' v' hz' hv']
  · intro z l hz
    simp only [List.mem_cons, List.not_mem_nil, or_false, Prod.mk.injEq] at hz ⊢
    rcases hz with ⟨rfl, _⟩ | ⟨rfl, _⟩ <;> simp
  · intro z l l' hz hz'
    simp only [List.mem_cons, List.not_mem_nil, or_false, Prod.mk.injEq] at hz hz'
    rcases hz with ⟨rfl, rfl⟩ | ⟨rfl, rfl⟩ <;> rcases hz' with ⟨h5, rfl⟩ | ⟨h5, rfl⟩
    · rfl
    · exact absurd h5 nob
    · exact absurd h5.symm nob
    · rfl
  · intro z l hz hn
    simp only [List.mem_cons, List.not_mem_nil, or_false, Prod.mk.injEq] at hz
    rcases hz with ⟨rfl, _⟩ | ⟨rfl, _⟩
    · exact ⟨_, hmo⟩
    · simp at hn
  · intro hst z l0 hz
    simp only [List.mem_cons, List.not_mem_nil, or_false, Prod.mk.injEq] at hz
    rcases hz with ⟨rfl, rfl⟩ | ⟨rfl, rfl⟩
    · refine ⟨hlo, hlb, .slice (some ⟨bo, 0, none⟩) n c1, c2.toList.take (n * 1), l.set i u, by rw [b1, if_neg nob, if_neg nor]; exact hbo, ⟨by rw [List.length_take]; simp; omega, .inr ⟨bo, c1, c2, rfl, hg, h5, hcap, hmax, by omega, rfl⟩⟩, by rw [b1, if_pos rfl], by simp [q4], fun v hv => ?_, fun j hj _ => ?_⟩
      · rcases List.mem_or_eq_of_mem_set hv with h | rfl
        · exact q5 v h
        · exact hhu
      · have hlt0 : (cur.toList.take (i * 1 + 0)).length = i := by rw [List.length_take]; simp; omega
        rw [List.getElem?_take, if_pos (by omega), h6, List.append_assoc]
        by_cases e : i = j
        · subst e
          rw [List.getElem?_set_self hil, List.getElem?_append_right (by omega), hlt0, List.getElem?_append_left (by simp)]
          simp
        · rw [List.getElem?_set_ne e, ← q6 j hj (by rcases hh with h | h <;> rw [h] <;> simp [e]), ← htake, List.getElem?_take, if_pos (by omega)]
          by_cases hb1 : j < i
          · rw [List.getElem?_append_left (by omega), List.getElem?_take, if_pos (by omega)]
          · rw [List.getElem?_append_right (by omega), hlt0, List.getElem?_append_right (by simp; omega), List.getElem?_drop]
            simp only [List.length_singleton]
            congr 1
            omega
    · refine ⟨hlb, inn_mk (l := l.set i u) (by rw [b1, if_pos rfl]) (by simp [q8]) (fun j v hv => ?_) (fun j j' v v' k hv hv' hk hk' => ?_)⟩
      · by_cases e : i = j
        · subst e
          rw [List.getElem?_set_self hil] at hv
          obtain rfl := Option.some.inj hv
          rw [upN_eq, upN_eq, upN_eq, if_pos rfl, if_pos rfl, if_pos rfl]
          exact inn1_move hi1 (fun k hk => hst.read k hk) (fun k hk => far k (fun e1 => nor (hI.inj o r _ u k hbo hu (by rw [e1]; rfl) (Blk_of hk))))
        · rw [List.getElem?_set_ne e] at hv
          rw [upN_eq, upN_eq, upN_eq, if_neg (Ne.symm e), if_neg (Ne.symm e), if_neg (Ne.symm e)]
          exact inn1_move (q9 j v hv) (fun k hk => hst.read k hk) (fun k hk => far k (fun e1 => nob (hI.inj _ _ _ _ k hbo q7 (by rw [e1]; rfl) (Blk_tup hv hk))))
      · by_cases e : i = j <;> by_cases e' : i = j'
        · rw [← e, ← e']
        · subst e
          rw [List.getElem?_set_self hil] at hv
          obtain rfl := Option.some.inj hv
          rw [List.getElem?_set_ne e'] at hv'
          exact absurd (hI.inj _ _ _ _ k hu q7 (Blk_of hk) (Blk_tup hv' hk')).symm nbr
        · subst e'
          rw [List.getElem?_set_self hil] at hv'
          obtain rfl := Option.some.inj hv'
          rw [List.getElem?_set_ne e] at hv
          exact absurd (hI.inj _ _ _ _ k hu q7 (Blk_of hk') (Blk_tup hv hk)).symm nbr
        · rw [List.getElem?_set_ne e] at hv
          rw [List.getElem?_set_ne e'] at hv'
          exact q10 j j' v v' k hv hv' hk hk'
/-- A row of nil headers is a row of rows. -/
theorem mkF_ok (hI : Inv nb w F β H) {o bn t n te e : Nat} {row : Nat → Nat → PS} (hm : (o, .rows t 1 n row) ∈ H) (hbn : bn < nb) (h1 : o ≠ bn) (hr : ∀ i, row i 0 = .nils) :
    ∃ β', β' o = β o ∧ Inv nb w F β' (chgH [bn] [bn, o] [(o, .out t n bn none), (bn, .inn te e n (fun _ => false) (fun _ => 0) (fun _ _ _ => .nilp))] H) ∧
      Run (fun z => !([bn] : List Nat).contains z) w F β H w F β' (chgH [bn] [bn, o] [(o, .out t n bn none), (bn, .inn te e n (fun _ => false) (fun _ => 0) (fun _ _ _ => .nilp))] H) := by
  obtain ⟨hlo, v, xs, q1, q2, q3⟩ := hI.obj o _ hm
  have rep : ∀ {i : Nat} {u : Value}, (List.replicate n (Value.slice none 0 0))[i]? = some u → u = .slice none 0 0 := fun {i u} h => by
    rw [List.getElem?_replicate] at h
    split at h
    · exact (Option.some.inj h).symm
    · cases h
  have b1 : ∀ z, putB β bn (.tuple (List.replicate n (Value.slice none 0 0)).toArray) z = if z = bn then some (.tuple (List.replicate n (Value.slice none 0 0)).toArray) else β z := fun z => rfl
  have noB : ∀ {k}, ¬ Blk (.tuple (List.replicate n (Value.slice none 0 0)).toArray) k := fun {k} h => by
    obtain ⟨i, u, h5, h6⟩ := Blk_tupD h
    rw [rep h5] at h6; cases h6
  refine ⟨putB β bn (.tuple (List.replicate n (Value.slice none 0 0)).toArray), by rw [b1, if_neg h1], chg_ok hI ⟨rfl, rfl, rfl⟩ (Nat.le_refl _) (fun _ _ _ => rfl) ?_ ?_ ?_ ?_ ?_ ?_ ?_⟩
  · intro z hz
    rw [b1, if_neg (by simpa using hz)]
  · intro z v k hz hv hb
    obtain rfl : z = bn := by simpa using hz
    rw [b1, if_pos rfl] at hv
    obtain rfl := Option.some.inj hv
    exact absurd hb noB
  · intro z z' v v' k hz hz' _ _ _ _
    rw [List.mem_singleton.1 hz, List.mem_singleton.1 hz']
  · intro z l hz
    simp only [List.mem_cons, List.not_mem_nil, or_false, Prod.mk.injEq] at hz ⊢
    rcases hz with ⟨rfl, _⟩ | ⟨rfl, _⟩ <;> simp
  · intro z l l' hz hz'
    simp only [List.mem_cons, List.not_mem_nil, or_false, Prod.mk.injEq] at hz hz'
    rcases hz with ⟨rfl, rfl⟩ | ⟨rfl, rfl⟩ <;> rcases hz' with ⟨h5, rfl⟩ | ⟨h5, rfl⟩
    · rfl
    · exact absurd h5 h1
    · exact absurd h5.symm h1
    · rfl
  · intro z l hz hn
    simp only [List.mem_cons, List.not_mem_nil, or_false, Prod.mk.injEq] at hz
    rcases hz with ⟨rfl, _⟩ | ⟨rfl, _⟩
    · exact ⟨_, hm⟩
    · simp at hn
  · intro hst z l0 hz
    simp only [List.mem_cons, List.not_mem_nil, or_false, Prod.mk.injEq] at hz
    rcases hz with ⟨rfl, rfl⟩ | ⟨rfl, rfl⟩
    · refine ⟨hlo, hbn, v, xs, _, by rw [b1, if_neg h1]; exact q1, q2, by rw [b1, if_pos rfl], by simp, fun u hu => by rw [(List.mem_replicate.1 hu).2]; rfl, fun i hi _ => ?_⟩
      obtain ⟨u, h5, h6⟩ := q3 i 0 hi (by omega)
      rw [hr i] at h6
      cases h6
      rw [List.getElem?_replicate, if_pos hi]
      simpa using h5
    · exact ⟨hbn, inn_mk (by rw [b1, if_pos rfl]) (by simp) (fun i u hu => by rw [rep hu]; exact inn1_nil) (fun i i' u u' k hu _ hk _ => by rw [rep hu] at hk; cases hk)⟩
/-- A store into a row of a bundle. -/
theorem setF_ok (hI : Inv nb w F β H) {b te e n i q off : Nat} {st : Nat → Bool} {len : Nat → Nat} {row : Nat → Nat → Nat → PS} {vl : List PS} (hm : (b, .inn te e n st len row) ∈ H) {l : List Value} {bi n' c' : Nat} (hb : β b = some (.tuple l.toArray)) (hl : l[i]? = some (.slice (some ⟨bi, 0, none⟩) n' c')) {vs : List Value} (hv : All2 (RS w F β) vl vs) (hn : vl.all noPtr = true) (hq : q < len i) (hlen : off + vl.length ≤ e) :
    w.there bi (q * e + off) vs.length ∧ Inv nb (w.setCells bi (q * e + off) vs) F β (setH H b (.inn te e n st len (upN row i (putRow (row i) q off vl)))) ∧ Run (fun _ => true) w F β H (w.setCells bi (q * e + off) vs) F β (setH H b (.inn te e n st len (upN row i (putRow (row i) q off vl)))) := by
  obtain ⟨_, hB⟩ := hI.obj b _ hm
  obtain ⟨l', p1, p2, p3, p4⟩ := inn_of hB
  obtain rfl := tup_inj hb p1
  obtain ⟨r1, r2, xs, h2, h3⟩ := p3 i _ hl
  have e1 : vl.length = vs.length := hv.length
  rcases h2.2 with ⟨h4, _⟩ | ⟨g, cap, cur, h4, hg, hh, hcap, hmax, hsz, htake⟩
  · cases h4
  cases h4
  have hle : len i * e ≤ c' * e := Nat.mul_le_mul_right _ hcap
  have hlt : q * e + off + vs.length ≤ len i * e := by
    have : q * e + e ≤ len i * e := by rw [← Nat.succ_mul]; exact Nat.mul_le_mul_right _ hq
    omega
  refine ⟨fun j hj => ⟨?_, ?_⟩, set_ok hI hm hb (Blk_tup hl rfl) vs (fun hst => ?_)⟩
  · rw [cell_of_row w bi (q * e + off + j) cur te (0, 0) hh]
    rw [Array.getElem?_eq_getElem (by omega)]; rfl
  · unfold World.frozen?
    simp [hh]
  refine inn_mk hb p2 (fun j u hj => ?_) p4
  by_cases e0 : j = i
  · subst e0
    rw [hl] at hj
    obtain rfl := Option.some.inj hj
    rw [upN_eq, if_pos rfl]
    obtain ⟨c2, h5, h6⟩ := heap_setCells_at bi te vs (q * e + off) w cur hh (by omega)
    have hl2 : c2.size = cur.size := by
      have := congrArg List.length h6
      simp at this
      omega
    refine ⟨r1, r2, c2.toList.take (len j * e), ⟨by rw [List.length_take]; simp; omega, .inr ⟨bi, c', c2, rfl, hg, h5, hcap, hmax, by omega, rfl⟩⟩, fun i1 j1 hi1 hj1 => ?_⟩
    have hidx : i1 * e + j1 < len j * e := row_lt hi1 hj1
    obtain ⟨u0, h7, h8⟩ := h3 i1 j1 hi1 hj1
    rw [← htake, List.getElem?_take, if_pos hidx] at h7
    have h7' : cur[i1 * e + j1]? = some u0 := by simpa using h7
    have iff := idx_eq (i1 := i1) (i := q) (len := vl.length) hj1 hlen
    have hlt0 : (cur.toList.take (q * e + off)).length = q * e + off := by rw [List.length_take]; simp; omega
    by_cases hin : i1 = q ∧ off ≤ j1 ∧ j1 < off + vl.length
    · have hr := iff.2 hin
      obtain ⟨rfl, h9, h10⟩ := hin
      have hk : j1 - off < vl.length := by omega
      obtain ⟨u, h11, h12⟩ := hv.get (List.getElem?_eq_getElem hk)
      refine ⟨u, ?_, ?_⟩
      · rw [List.getElem?_take, if_pos hidx, h6, List.append_assoc, List.getElem?_append_right (by omega), hlt0, List.getElem?_append_left (by omega)]
        rw [show i1 * e + j1 - (i1 * e + off) = j1 - off by omega]
        exact h11
      · rw [putRow_eq]
        rw [if_pos (by simp; omega)]
        have : vl.getD (j1 - off) .nilp = vl[j1 - off] := by simp [List.getD_eq_getElem?_getD, hk]
        rw [this]
        exact (RS_plain (List.all_eq_true.1 hn _ (List.getElem_mem hk)) h12).mono hst.read
    · have hr : ¬ (q * e + off ≤ i1 * e + j1 ∧ i1 * e + j1 < q * e + off + vl.length) := fun h => hin (iff.1 h)
      refine ⟨u0, ?_, ?_⟩
      · rw [List.getElem?_take, if_pos hidx, h6, List.append_assoc]
        by_cases hb1 : i1 * e + j1 < q * e + off
        · rw [List.getElem?_append_left (by omega), List.getElem?_take, if_pos hb1]
          simpa using h7'
        · rw [List.getElem?_append_right (by omega), hlt0, List.getElem?_append_right (by omega), List.getElem?_drop]
          rw [show q * e + off + vs.length + (i1 * e + j1 - (q * e + off) - vs.length) = i1 * e + j1 by omega]
          simpa using h7'
      · rw [putRow_eq]
        rw [if_neg (by simpa using fun h => fun h' => Nat.not_lt.1 (fun h'' => hin ⟨h, h', h''⟩))]
        exact h8.mono hst.read
  · rw [upN_eq, if_neg e0]
    exact inn1_move (p3 j u hj) (fun k hk => hst.read k hk) (fun k hk => heap_setCells_far bi vs _ w k (fun e1 => e0 (p4 j i u _ k hj hl hk (by rw [e1]; rfl))))
/-- A row of a bundle that is appended to: it leaves the bundle. -/
theorem takF_ok (hI : Inv nb w F β H) {o b x t n te e n' i m : Nat} {st : Nat → Bool} {len : Nat → Nat} {row : Nat → Nat → Nat → PS} {new : Nat → Nat → PS} {l : List Value} {u v' : Value} {news xs : List Value}
    (hmo : (o, .out t n b none) ∈ H) (hmb : (b, .inn te e n' st len row) ∈ H) (hx : x < nb) (hxo : x ≠ o) (hxb : x ≠ b) (hb : β b = some (.tuple l.toArray)) (hl : l[i]? = some u)
    (hown : w.ownsRow 0 te e u (len i) xs) (hrow : ∀ k j, k < len i → j < e → ∃ c, xs[k * e + j]? = some c ∧ RF w F (row i k j) c)
    (hown' : w'.ownsRow 0 te e v' (len i + m) (xs ++ news)) (hnew : ∀ k j, k < m → j < e → ∃ c, news[k * e + j]? = some c ∧ RF w F (new k j) c) (hg : w.grownBy w' u.ownBlock) (hat : v'.ownBlock = u.ownBlock ∨ v'.ownBlock = some w.heap.size) :
    ∃ β', β' x = some v' ∧ Inv nb w' F β' (chgH [b, x] [b, x, o] [(x, .rows te e (len i + m) (appRow (len i) (row i) new)), (o, .out t n b (some i)), (b, .inn te e n' (upN st i false) (upN len i 0) row)] H) ∧
      Run (fun z => !([b, x] : List Nat).contains z) w F β H w' F β' (chgH [b, x] [b, x, o] [(x, .rows te e (len i + m) (appRow (len i) (row i) new)), (o, .out t n b (some i)), (b, .inn te e n' (upN st i false) (upN len i 0) row)] H) := by
  have nob : o ≠ b := by rintro rfl; cases hI.uniq _ _ _ hmo hmb
  obtain ⟨hlo, hO⟩ := hI.obj o _ hmo
  obtain ⟨hlb, hB⟩ := hI.obj b _ hmb
  obtain ⟨l', p1, p2, p3, p4⟩ := inn_of hB
  obtain rfl := tup_inj hb p1
  obtain ⟨_, v, ys, l3, q1, q2, q3, q4, q5, q6⟩ := hO
  obtain rfl := tup_inj hb q3
  have hil : i < l.length := by
    rcases Nat.lt_or_ge i l.length with h | h
    · exact h
    · rw [List.getElem?_eq_none h] at hl; cases hl
  have hub := own_blk hown
  have hvb := own_blk hown'
  rw [hub, hvb] at hat
  have hst0 : ∀ k, k < w.heap.size → blk u ≠ some k → w'.heap[k]? = w.heap[k]? := fun k hk hne => hg.block k hk (fun e => hne (by rw [← hub, ← e]))
  have hbv : ∀ {k}, Blk v' k ↔ blk v' = some k := owns_Blk hown'
  have b1 : ∀ z, putB (putB β b (.tuple (l.set i (.slice none 0 0)).toArray)) x v' z = if z = x then some v' else if z = b then some (.tuple (l.set i (.slice none 0 0)).toArray) else β z := fun z => rfl
  have set : ∀ {j u0}, (l.set i (.slice none 0 0))[j]? = some u0 → (j = i ∧ u0 = .slice none 0 0) ∨ (j ≠ i ∧ l[j]? = some u0) := fun {j u0} h => by
    by_cases e : i = j
    · subst e; rw [List.getElem?_set_self hil] at h; exact .inl ⟨rfl, (Option.some.inj h).symm⟩
    · rw [List.getElem?_set_ne e] at h; exact .inr ⟨Ne.symm e, h⟩
  have setB : ∀ {k}, Blk (.tuple (l.set i (.slice none 0 0)).toArray) k → ∃ j u0, j ≠ i ∧ l[j]? = some u0 ∧ blk u0 = some k := fun {k} h => by
    obtain ⟨j, u0, h1, h2⟩ := Blk_tupD h
    rcases set h1 with ⟨_, rfl⟩ | ⟨h3, h4⟩
    · cases h2
    · exact ⟨j, u0, h3, h4, h2⟩
  have hx' : ∀ {k j u0}, blk v' = some k → j ≠ i → l[j]? = some u0 → blk u0 ≠ some k := fun {k j u0} h1 h2 h3 h4 => by
    rcases hat with h | h
    · exact h2 (p4 j i u0 u k h3 hl h4 (by rw [← h]; exact h1))
    · rw [h] at h1
      have := hI.ltβ b _ k hb (Blk_tup h3 h4)
      have := Option.some.inj h1
      omega
  have bx : (if b = x then some v' else if b = b then some (Value.tuple (l.set i (.slice none 0 0)).toArray) else β b) = some (.tuple (l.set i (.slice none 0 0)).toArray) := by rw [if_neg (Ne.symm hxb), if_pos rfl]
  refine ⟨putB (putB β b (.tuple (l.set i (.slice none 0 0)).toArray)) x v', by rw [b1, if_pos rfl], chg_ok hI ⟨hg.os, hg.tape, hg.output⟩ hg.size (fun k hk hn => hst0 k hk (fun e => hn b _ _ (by simp) hmb hb (Blk_tup hl e))) ?_ ?_ ?_ ?_ ?_ ?_ ?_⟩
  · intro z hz
    simp only [List.mem_cons, List.not_mem_nil, or_false, not_or] at hz
    rw [b1, if_neg hz.2, if_neg hz.1]
  · intro z v2 k hz hv hk
    rw [b1] at hv
    split at hv
    · obtain rfl := Option.some.inj hv
      have hk := hbv.1 hk
      rcases hat with h | h
      · exact .inr ⟨b, _, _, by simp, hmb, hb, Blk_tup hl (by rw [← h]; exact hk)⟩
      · exact .inl ⟨by rw [h] at hk; have := Option.some.inj hk; omega, own_lt hown' hk⟩
    · split at hv
      · obtain rfl := Option.some.inj hv
        obtain ⟨j, u0, _, h1, h2⟩ := setB hk
        exact .inr ⟨b, _, _, by simp, hmb, hb, Blk_tup h1 h2⟩
      · rename_i h1 h2; simp [h1, h2] at hz
  · intro z z' v2 v3 k hz hz' hv hv' hk hk'
    rw [b1] at hv hv'
    split at hv <;> split at hv'
    · rename_i e1 e2; rw [e1, e2]
    · split at hv'
      · obtain rfl := Option.some.inj hv
        obtain rfl := Option.some.inj hv'
        obtain ⟨j, u0, h0, h1, h2⟩ := setB hk'
        exact absurd h2 (hx' (hbv.1 hk) h0 h1)
      · rename_i h1 h2; simp [h1, h2] at hz'
    · split at hv
      · obtain rfl := Option.some.inj hv
        obtain rfl := Option.some.inj hv'
        obtain ⟨j, u0, h0, h1, h2⟩ := setB hk
        exact absurd h2 (hx' (hbv.1 hk') h0 h1)
      · rename_i h0 _ h2; simp [h0, h2] at hz
    · rename_i h1 h2
      simp only [List.mem_cons, List.not_mem_nil, or_false, h1, h2] at hz hz'
      rw [hz, hz']
  · intro z l hz
    simp only [List.mem_cons, List.not_mem_nil, or_false, Prod.mk.injEq] at hz ⊢
    rcases hz with ⟨rfl, _⟩ | ⟨rfl, _⟩ | ⟨rfl, _⟩ <;> simp
  · intro z l l' hz hz'
    simp only [List.mem_cons, List.not_mem_nil, or_false, Prod.mk.injEq] at hz hz'
    rcases hz with ⟨rfl, rfl⟩ | ⟨rfl, rfl⟩ | ⟨rfl, rfl⟩ <;> rcases hz' with ⟨h5, rfl⟩ | ⟨h5, rfl⟩ | ⟨h5, rfl⟩ <;> first
      | rfl
      | exact absurd h5 hxo
      | exact absurd h5.symm hxo
      | exact absurd h5 hxb
      | exact absurd h5.symm hxb
      | exact absurd h5 nob
      | exact absurd h5.symm nob
  · intro z l hz hn
    simp only [List.mem_cons, List.not_mem_nil, or_false, Prod.mk.injEq] at hz
    rcases hz with ⟨rfl, _⟩ | ⟨rfl, _⟩ | ⟨rfl, _⟩
    · simp at hn
    · exact ⟨_, hmo⟩
    · simp at hn
  · intro hst z l0 hz
    simp only [List.mem_cons, List.not_mem_nil, or_false, Prod.mk.injEq] at hz
    rcases hz with ⟨e0, rfl⟩ | ⟨e0, rfl⟩ | ⟨e0, rfl⟩
    · rw [e0]
      refine ⟨hx, v', xs ++ news, by rw [b1, if_pos rfl], hown', fun k j hk hj => ?_⟩
      have hxl : xs.length = len i * e := hown.1
      rw [appRow_eq]
      by_cases hin : k < len i
      · rw [if_pos hin]
        obtain ⟨c, h2, h3⟩ := hrow k j hin hj
        exact ⟨c, by rw [List.getElem?_append_left (by rw [hxl]; exact row_lt hin hj)]; exact h2, h3.mono hst.read⟩
      · rw [if_neg hin]
        obtain ⟨c, h2, h3⟩ := hnew (k - len i) j (by omega) hj
        refine ⟨c, ?_, h3.mono hst.read⟩
        have : len i * e + (k - len i) * e = k * e := by rw [← Nat.add_mul]; congr 1; omega
        rw [List.getElem?_append_right (by rw [hxl]; omega), hxl, show k * e + j - len i * e = (k - len i) * e + j by omega]
        exact h2
    · rw [e0]
      refine ⟨hlo, hlb, v, ys, l.set i (.slice none 0 0), by rw [b1, if_neg (Ne.symm hxo), if_neg nob]; exact q1, ⟨q2.1, ?_⟩, by rw [b1]; exact bx, by simp [q4], fun v0 hv0 => ?_, fun j hj hne => ?_⟩
      · rcases q2.2 with h4 | ⟨g, cap, cur, rfl, h5, h6, h7⟩
        · exact .inl h4
        · exact .inr ⟨g, cap, cur, rfl, h5, (hst0 g (hI.ltβ o _ g q1 rfl) (fun e => nob (hI.inj o b _ _ g q1 hb rfl (Blk_tup hl e)))).trans h6, h7⟩
      · rcases List.mem_or_eq_of_mem_set hv0 with h | rfl
        · exact q5 v0 h
        · rfl
      · rw [List.getElem?_set_ne (by rintro rfl; exact hne rfl)]
        exact q6 j hj (by simp)
    · rw [e0]
      refine ⟨hlb, inn_mk (l := l.set i (.slice none 0 0)) (by rw [b1]; exact bx) (by simp [p2]) (fun j u0 hj => ?_) (fun j j' u0 u1 k hj hj' hk hk' => ?_)⟩
      · rw [upN_eq, upN_eq]
        rcases set hj with ⟨h1, rfl⟩ | ⟨h1, h2⟩
        · rw [if_pos h1, if_pos h1]; exact inn1_nil
        · rw [if_neg h1, if_neg h1]
          exact inn1_move (p3 j u0 h2) (fun k hk => hst.read k hk) (fun k hk => hst0 k (hI.ltβ b _ k hb (Blk_tup h2 hk)) (fun e => h1 (p4 j i u0 u k h2 hl hk e)))
      · rcases set hj with ⟨_, rfl⟩ | ⟨h1, h2⟩
        · cases hk
        · rcases set hj' with ⟨_, rfl⟩ | ⟨h3, h4⟩
          · cases hk'
          · exact p4 j j' u0 u1 k h2 h4 hk hk'
/-- A row of rows grows by another one. n1 = 0: the first is nil. -/
theorem appF_ok (hI : Inv nb w F β H) {o b o2 b2 t te e n1 n2 n2' : Nat} {st1 st2 : Nat → Bool} {len1 len2 : Nat → Nat} {row1 row2 : Nat → Nat → Nat → PS} {l1 l2 : List Value} {v1 v' : Value}
    (ho : o < nb) (hb : b < nb) (d1 : o ≠ b) (d2 : o ≠ o2) (d3 : o ≠ b2) (d4 : b ≠ o2) (d5 : b ≠ b2)
    (hmo2 : (o2, .out t n2 b2 none) ∈ H) (hmb2 : (b2, .inn te e n2' st2 len2 row2) ∈ H) (hb2 : β b2 = some (.tuple l2.toArray))
    (hown1 : w.ownsRow 0 t 1 v1 n1 l1)
    (hsrc : (v1 = .slice none 0 0 ∧ l1 = []) ∨ (∃ n', (o, .out t n1 b none) ∈ H ∧ (b, .inn te e n' st1 len1 row1) ∈ H ∧ β o = some v1 ∧ β b = some (.tuple l1.toArray)))
    (hown' : w'.ownsRow 0 t 1 v' (n1 + n2) (l1 ++ l2)) (hg : w.grownBy w' v1.ownBlock) (hat : v'.ownBlock = v1.ownBlock ∨ v'.ownBlock = some w.heap.size) :
    ∃ β', β' o = some v' ∧ Inv nb w' F β' (chgH [o, b, o2, b2] [o, b, o2, b2] [(o, .out t (n1 + n2) b none), (b, .inn te e (n1 + n2) (appN n1 st1 st2) (appN n1 len1 len2) (appN n1 row1 row2))] H) ∧
      Run (fun z => !([o, b, o2, b2] : List Nat).contains z) w F β H w' F β' (chgH [o, b, o2, b2] [o, b, o2, b2] [(o, .out t (n1 + n2) b none), (b, .inn te e (n1 + n2) (appN n1 st1 st2) (appN n1 len1 len2) (appN n1 row1 row2))] H) := by
  obtain ⟨l2', p1, p2, p3, p4⟩ := inn_of (hI.obj b2 _ hmb2).2
  obtain rfl := tup_inj hb2 p1
  obtain ⟨_, v2, _, _, _, _, q3, q4, _⟩ := (hI.obj o2 _ hmo2).2
  obtain rfl := tup_inj hb2 q3
  have hl1 : l1.length = n1 := by have := hown1.1; omega
  -- the first rows
  have f1 : ∀ i u, l1[i]? = some u → Inn1 w F te e (st1 i) (len1 i) (row1 i) u ∧ ∀ k, blk u = some k → ∃ n', (b, .inn te e n' st1 len1 row1) ∈ H ∧ β b = some (.tuple l1.toArray) := fun i u hi => by
    rcases hsrc with ⟨_, rfl⟩ | ⟨n', h1, h2, h3, h4⟩
    · cases hi
    · obtain ⟨l', r1, r2, r3, r4⟩ := inn_of (hI.obj b _ h2).2
      obtain rfl := tup_inj h4 r1
      exact ⟨r3 i u hi, fun _ _ => ⟨n', h2, h4⟩⟩
  have g1 : InnD l1 := by
    rcases hsrc with ⟨_, rfl⟩ | ⟨n', h1, h2, h3, h4⟩
    · intro i i' u u' k hi; cases hi
    · obtain ⟨l', r1, r2, r3, r4⟩ := inn_of (hI.obj b _ h2).2
      obtain rfl := tup_inj h4 r1
      exact r4
  have hv1 : ∀ k, blk v1 = some k → ∃ lo, (o, lo) ∈ H ∧ β o = some v1 := fun k hk => by
    rcases hsrc with ⟨rfl, _⟩ | ⟨n', h1, h2, h3, h4⟩
    · cases hk
    · exact ⟨_, h1, h3⟩
  have hub := own_blk hown1
  have hvb := own_blk hown'
  rw [hub, hvb] at hat
  have hst0 : ∀ k, k < w.heap.size → blk v1 ≠ some k → w'.heap[k]? = w.heap[k]? := fun k hk hne => hg.block k hk (fun e => hne (by rw [← hub, ← e]))
  have hbv : ∀ {k}, Blk v' k ↔ blk v' = some k := owns_Blk hown'
  -- a row's block is not that of the first headers
  have x1 : ∀ i u k, l1[i]? = some u → blk u = some k → blk v1 ≠ some k := fun i u k hi hk e0 => by
    obtain ⟨_, _, h1⟩ := (f1 i u hi).2 k hk
    obtain ⟨_, _, h2⟩ := hv1 k e0
    exact d1 (hI.inj o b _ _ k h2 h1 (Blk_of e0) (Blk_tup hi hk))
  have x2 : ∀ i u k, l2[i]? = some u → blk u = some k → blk v1 ≠ some k := fun i u k hi hk e0 => by
    obtain ⟨_, _, h2⟩ := hv1 k e0
    exact d3 (hI.inj o b2 _ _ k h2 hb2 (Blk_of e0) (Blk_tup hi hk))
  have lt1 : ∀ i u k, l1[i]? = some u → blk u = some k → k < w.heap.size := fun i u k hi hk => by
    obtain ⟨_, _, h1⟩ := (f1 i u hi).2 k hk
    exact hI.ltβ b _ k h1 (Blk_tup hi hk)
  have lt2 : ∀ i u k, l2[i]? = some u → blk u = some k → k < w.heap.size := fun i u k hi hk => hI.ltβ b2 _ k hb2 (Blk_tup hi hk)
  have app : ∀ {i u}, (l1 ++ l2)[i]? = some u → (i < n1 ∧ l1[i]? = some u) ∨ (¬ i < n1 ∧ l2[i - n1]? = some u) := fun {i u} h => by
    by_cases hi : i < n1
    · rw [List.getElem?_append_left (by omega)] at h; exact .inl ⟨hi, h⟩
    · rw [List.getElem?_append_right (by omega), hl1] at h; exact .inr ⟨hi, h⟩
  have b1 : ∀ z, putB (putB (offB o2 (offB b2 β)) b (.tuple (l1 ++ l2).toArray)) o v' z = if z = o then some v' else if z = b then some (.tuple (l1 ++ l2).toArray) else if z = o2 then none else if z = b2 then none else β z := fun z => rfl
  have bb : ∀ z, z = b → (if z = o then some v' else if z = b then some (Value.tuple (l1 ++ l2).toArray) else if z = o2 then none else if z = b2 then none else β z) = some (.tuple (l1 ++ l2).toArray) := fun z hz => by rw [hz, if_neg (Ne.symm d1), if_pos rfl]
  have only : ∀ {z x}, z ∈ ([o, b, o2, b2] : List Nat) → (if z = o then some v' else if z = b then some (Value.tuple (l1 ++ l2).toArray) else if z = o2 then none else if z = b2 then none else β z) = some x → (z = o ∧ x = v') ∨ (z = b ∧ x = .tuple (l1 ++ l2).toArray) := fun {z x} hz hx => by
    split at hx
    · rename_i h; exact .inl ⟨h, (Option.some.inj hx).symm⟩
    · split at hx
      · rename_i h; exact .inr ⟨h, (Option.some.inj hx).symm⟩
      · split at hx
        · cases hx
        · split at hx
          · cases hx
          · rename_i h1 h2 h3 h4; simp [h1, h2, h3, h4] at hz
  have cross : ∀ {k}, blk v' = some k → ¬ Blk (.tuple (l1 ++ l2).toArray) k := fun {k} h h0 => by
    obtain ⟨i, u, h1, h2⟩ := Blk_tupD h0
    rcases hat with e0 | e0
    · rw [e0] at h
      rcases app h1 with ⟨_, h3⟩ | ⟨_, h3⟩
      · exact x1 i u k h3 h2 h
      · exact x2 _ u k h3 h2 h
    · rw [e0] at h
      have := Option.some.inj h
      rcases app h1 with ⟨_, h3⟩ | ⟨_, h3⟩
      · have := lt1 i u k h3 h2; omega
      · have := lt2 _ u k h3 h2; omega
  refine ⟨putB (putB (offB o2 (offB b2 β)) b (.tuple (l1 ++ l2).toArray)) o v', by rw [b1, if_pos rfl], chg_ok hI ⟨hg.os, hg.tape, hg.output⟩ hg.size (fun k hk hn => hst0 k hk (fun e0 => ?_)) ?_ ?_ ?_ ?_ ?_ ?_ ?_⟩
  · obtain ⟨lo, h1, h2⟩ := hv1 k e0
    exact hn o lo v1 (by simp) h1 h2 (Blk_of e0)
  · intro z hz
    simp only [List.mem_cons, List.not_mem_nil, or_false, not_or] at hz
    rw [b1, if_neg hz.1, if_neg hz.2.1, if_neg hz.2.2.1, if_neg hz.2.2.2]
  · intro z v k hz hv hk
    rw [b1] at hv
    rcases only hz hv with ⟨_, rfl⟩ | ⟨_, rfl⟩
    · have hk := hbv.1 hk
      rcases hat with e0 | e0
      · rw [e0] at hk
        obtain ⟨lo, h1, h2⟩ := hv1 k hk
        exact .inr ⟨o, lo, v1, by simp, h1, h2, Blk_of hk⟩
      · exact .inl ⟨by rw [e0] at hk; have := Option.some.inj hk; omega, own_lt hown' hk⟩
    · obtain ⟨i, u, h1, h2⟩ := Blk_tupD hk
      rcases app h1 with ⟨_, h3⟩ | ⟨_, h3⟩
      · obtain ⟨n', h4, h5⟩ := (f1 i u h3).2 k h2
        exact .inr ⟨b, _, _, by simp, h4, h5, Blk_tup h3 h2⟩
      · exact .inr ⟨b2, _, _, by simp, hmb2, hb2, Blk_tup h3 h2⟩
  · intro z z' v v3 k hz hz' hv hv' hk hk'
    rw [b1] at hv hv'
    rcases only hz hv with ⟨e1, rfl⟩ | ⟨e1, rfl⟩ <;> rcases only hz' hv' with ⟨e2, rfl⟩ | ⟨e2, rfl⟩
    · rw [e1, e2]
    · exact absurd hk' (cross (hbv.1 hk))
    · exact absurd hk (cross (hbv.1 hk'))
    · rw [e1, e2]
  · intro z l hz
    simp only [List.mem_cons, List.not_mem_nil, or_false, Prod.mk.injEq] at hz ⊢
    rcases hz with ⟨rfl, _⟩ | ⟨rfl, _⟩ <;> simp
  · intro z l l' hz hz'
    simp only [List.mem_cons, List.not_mem_nil, or_false, Prod.mk.injEq] at hz hz'
    rcases hz with ⟨rfl, rfl⟩ | ⟨rfl, rfl⟩ <;> rcases hz' with ⟨h5, rfl⟩ | ⟨h5, rfl⟩ <;> first
      | rfl
      | exact absurd h5 d1
      | exact absurd h5.symm d1
  · intro z l hz hn
    simp only [List.mem_cons, List.not_mem_nil, or_false, Prod.mk.injEq] at hz
    rcases hz with ⟨rfl, _⟩ | ⟨rfl, _⟩ <;> simp at hn
  · intro hst z l0 hz
    simp only [List.mem_cons, List.not_mem_nil, or_false, Prod.mk.injEq] at hz
    rcases hz with ⟨e0, rfl⟩ | ⟨e0, rfl⟩
    · rw [e0]
      refine ⟨ho, hb, v', l1 ++ l2, l1 ++ l2, by rw [b1, if_pos rfl], hown', by rw [b1]; exact bb b rfl, by rw [List.length_append, hl1, q4], fun u hu => ?_, fun _ _ _ => rfl⟩
      rcases List.mem_append.1 hu with h | h
      · obtain ⟨i, hi, rfl⟩ := List.getElem_of_mem h
        exact inn1_hdr (f1 i _ (List.getElem?_eq_getElem hi)).1
      · obtain ⟨i, hi, rfl⟩ := List.getElem_of_mem h
        exact inn1_hdr (p3 i _ (List.getElem?_eq_getElem hi))
    · rw [e0]
      refine ⟨hb, inn_mk (l := l1 ++ l2) (by rw [b1]; exact bb b rfl) (by rw [List.length_append, hl1, q4]) (fun i u hi => ?_) (fun i i' u u' k hi hi' hk hk' => ?_)⟩
      · rw [appN_eq, appN_eq, appN_eq]
        rcases app hi with ⟨h1, h2⟩ | ⟨h1, h2⟩
        · rw [if_pos h1, if_pos h1, if_pos h1]
          exact inn1_move (f1 i u h2).1 (fun k hk => hst.read k hk) (fun k hk => hst0 k (lt1 i u k h2 hk) (x1 i u k h2 hk))
        · rw [if_neg h1, if_neg h1, if_neg h1]
          exact inn1_move (p3 _ u h2) (fun k hk => hst.read k hk) (fun k hk => hst0 k (lt2 _ u k h2 hk) (x2 _ u k h2 hk))
      · rcases app hi with ⟨h1, h2⟩ | ⟨h1, h2⟩ <;> rcases app hi' with ⟨h3, h4⟩ | ⟨h3, h4⟩
        · exact g1 i i' u u' k h2 h4 hk hk'
        · obtain ⟨_, _, h5⟩ := (f1 i u h2).2 k hk
          exact absurd (hI.inj b b2 _ _ k h5 hb2 (Blk_tup h2 hk) (Blk_tup h4 hk')) d5
        · obtain ⟨_, _, h5⟩ := (f1 i' u' h4).2 k hk'
          exact absurd (hI.inj b b2 _ _ k h5 hb2 (Blk_tup h4 hk') (Blk_tup h2 hk)) d5
        · have := p4 _ _ u u' k h2 h4 hk hk'; omega
end fam
end Go.Proofs.Ytobfnncpjkeloaa.Ev
