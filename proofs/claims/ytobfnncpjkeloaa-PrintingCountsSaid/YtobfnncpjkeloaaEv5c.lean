import Derived.Test.YtobfnncpjkeloaaEv5b
namespace Go.Proofs.Ytobfnncpjkeloaa.Ev
open Go Go.RowKit Go.Proofs.YtobfnncpjkeloaaW.PrintLast
section mem
variable {nb : Nat} {w w' : World} {F : Nat → Prop} {β : Blocks} {H : Heap}
theorem owns_blk {base t e n : Nat} {v : Value} {xs : List Value} (h : w.ownsRow base t e v n xs) : blk v = v.ownBlock := by
  rcases h.2 with ⟨rfl, _⟩ | ⟨g, cap, cur, rfl, _⟩ <;> rfl
theorem owns_Blk {base t e n b : Nat} {v : Value} {xs : List Value} (h : w.ownsRow base t e v n xs) : Blk v b ↔ blk v = some b := by
  rcases h.2 with ⟨rfl, _⟩ | ⟨g, cap, cur, rfl, _⟩ <;> exact Iff.rfl
theorem killS_ok {o : Nat} {s : PS} {v : Value} (h : RS w F β s v) : RS w F β (killS o s) v ∧ okS (fun x => x != o) (killS o s) = true := by
  unfold killS
  split
  · rename_i hq; exact ⟨h, hq⟩
  · exact ⟨RS.one h, rfl⟩
theorem killS_names {o : Nat} {s : PS} {ok : Nat → Bool} (h : okS ok s = true) : okS ok (killS o s) = true := by
  unfold killS
  split
  · exact h
  · rfl
theorem all2_kill {o : Nat} {l : List PS} {m : List Value} (h : All2 (RS w F β) l m) : All2 (RS w F β) (l.map (killS o)) m ∧ (l.map (killS o)).all (okS fun x => x != o) = true := by
  induction h with
  | nil => exact ⟨.nil, rfl⟩
  | cons h5 _ ih => exact ⟨.cons (killS_ok h5).1 ih.1, by rw [List.map_cons, List.all_cons, (killS_ok h5).2, ih.2]; rfl⟩
theorem kill_ok {o x : Nat} {l : OB} (h : okOB nb w F β x l) : okOB nb w F β x (killOB o l) ∧ obOk (fun y => y != o) (killOB o l) = true := by
  cases l with
  | out t n b hole =>
    by_cases hb : b = o
    · rw [show killOB o (.out t n b hole) = .dead from if_pos hb]
      obtain ⟨_, v, _, _, h1, _⟩ := h; exact ⟨⟨v, h1⟩, rfl⟩
    · rw [show killOB o (.out t n b hole) = .out t n b hole from if_neg hb]
      exact ⟨h, by simpa [obOk] using hb⟩
  | rows t e n row => exact ⟨h, rfl⟩
  | mp ki vi val => exact ⟨h, rfl⟩
  | inn t e n st len row => exact ⟨h, rfl⟩
  | dead => exact ⟨h, rfl⟩
  | box l =>
    obtain ⟨h1, b, c, t, h2, h3, h4⟩ := h
    refine ⟨⟨?_, b, c, t, h2, h3, ?_⟩, ?_⟩
    · rw [List.all_eq_true] at h1 ⊢
      intro s hs
      obtain ⟨s0, hs0, rfl⟩ := List.mem_map.1 hs
      exact killS_names (h1 s0 hs0)
    · exact (all2_kill h4).1
    · exact (all2_kill h4).2
/-- A row that has grown. -/
theorem app_ok (hI : Inv nb w F β H) {o t e n m : Nat} {row new : Nat → Nat → PS} {v v' : Value} {xs news : List Value} (ho : o < nb) (hown : w.ownsRow 0 t e v n xs) (hrow : ∀ i j, i < n → j < e → ∃ u, xs[i * e + j]? = some u ∧ RF w F (row i j) u)
    (hv : blk v = none ∨ ∃ l, (o, l) ∈ H ∧ β o = some v) (hown' : w'.ownsRow 0 t e v' (n + m) (xs ++ news)) (hnew : ∀ i j, i < m → j < e → ∃ u, news[i * e + j]? = some u ∧ RF w F (new i j) u) (hg : w.grownBy w' v.ownBlock) (hat : v'.ownBlock = v.ownBlock ∨ v'.ownBlock = some w.heap.size) :
    Inv nb w' F (putB β o v') ((o, .rows t e (n + m) (appRow n row new)) :: killH o H) ∧ Run (fun x => x != o) w F β H w' F (putB β o v') ((o, .rows t e (n + m) (appRow n row new)) :: killH o H) := by
  have hb := owns_blk hown
  have hb' := owns_blk hown'
  have hlt' : ∀ b, blk v' = some b → b < w'.heap.size := fun b hk => by
    rcases hown'.2 with ⟨rfl, _⟩ | ⟨g, cap, cur, rfl, _, hh, _⟩
    · cases hk
    · have e : g = b := by simpa [blk] using hk
      subst e
      rcases Nat.lt_or_ge g w'.heap.size with h | h
      · exact h
      · rw [Array.getElem?_eq_none h] at hh; cases hh
  -- what is not this row's block stands
  have hst0 : ∀ k, k < w.heap.size → blk v ≠ some k → w'.heap[k]? = w.heap[k]? := fun k hk hne => hg.block k hk (fun e => hne (by rw [hb, ← e]))
  have hF : ∀ b, F b → blk v ≠ some b := fun b hFb he => by
    rcases hv with h | ⟨l, _, h⟩
    · rw [h] at he; cases he
    · exact hI.apart o v b h (Blk_of he) hFb
  have hst : Step (fun x => x != o) w F β w' F (putB β o v') := ⟨hg.os, hg.tape, hg.output, hg.size, fun b hFb => ⟨hFb, hst0 b (hI.lt b hFb) (hF b hFb)⟩, fun x u hx hu => (putB_far β v' (by simpa using hx)).trans hu⟩
  have key : ∀ z u, putB β o v' z = some u → (z = o ∧ u = v') ∨ (z ≠ o ∧ β z = some u) := fun z u hz => by
    by_cases e : z = o
    · subst e; rw [putB_same] at hz; exact .inl ⟨rfl, (Option.some.inj hz).symm⟩
    · rw [putB_far β v' e] at hz; exact .inr ⟨e, hz⟩
  have hne : ∀ z u b, z ≠ o → β z = some u → Blk u b → blk v ≠ some b ∧ blk v' ≠ some b := fun z u b hz hu hk => by
    have h1 : blk v ≠ some b := fun e => by
      rcases hv with h | ⟨l, _, h⟩
      · rw [h] at e; cases e
      · exact hz (hI.inj z o u v b hu h hk (Blk_of e))
    refine ⟨h1, fun e => ?_⟩
    rcases hat with h | h
    · exact h1 (by rw [hb, ← h, ← hb']; exact e)
    · rw [hb', h] at e
      have := hI.ltβ z u b hu hk
      have := Option.some.inj e
      omega
  refine ⟨⟨?_, ?_, ?_, ?_, ?_, ?_⟩, ⟨hst, ?_, ?_, fun _ h _ => .inl h⟩⟩
  · intro x l l' h1 h2
    have far : ∀ l, (x, l) ∈ killH o H → x ≠ o ∧ ∃ l0, (x, l0) ∈ H ∧ l = killOB o l0 := fun l h => by
      obtain ⟨⟨x0, l0⟩, h3, h4⟩ := List.mem_map.1 h
      obtain ⟨rfl, rfl⟩ := Prod.mk.inj h4
      obtain ⟨h5, h6⟩ := List.mem_filter.1 h3
      exact ⟨by simpa using h6, l0, h5, rfl⟩
    rcases List.mem_cons.1 h1 with e1 | h1 <;> rcases List.mem_cons.1 h2 with e2 | h2
    · rw [(Prod.mk.inj e1).2, (Prod.mk.inj e2).2]
    · exact absurd (Prod.mk.inj e1).1 (far l' h2).1
    · exact absurd (Prod.mk.inj e2).1 (far l h1).1
    · obtain ⟨_, l0, h3, rfl⟩ := far l h1
      obtain ⟨_, l1, h4, rfl⟩ := far l' h2
      rw [hI.uniq x l0 l1 h3 h4]
  · intro x l h1
    rcases List.mem_cons.1 h1 with e1 | h1
    · obtain ⟨rfl, rfl⟩ := Prod.mk.inj e1
      refine ⟨ho, v', xs ++ news, putB_same _ _ _, hown', fun i j hi hj => ?_⟩
      have hxl : xs.length = n * e := hown.1
      rw [appRow_eq]
      by_cases hin : i < n
      · rw [if_pos hin]
        obtain ⟨u, h2, h3⟩ := hrow i j hin hj
        exact ⟨u, by rw [List.getElem?_append_left (by rw [hxl]; exact row_lt hin hj)]; exact h2, h3.mono hst.read⟩
      · rw [if_neg hin]
        obtain ⟨u, h2, h3⟩ := hnew (i - n) j (by omega) hj
        refine ⟨u, ?_, h3.mono hst.read⟩
        have : n * e + (i - n) * e = i * e := by rw [← Nat.add_mul]; congr 1; omega
        rw [List.getElem?_append_right (by rw [hxl]; omega), hxl, show i * e + j - n * e = (i - n) * e + j by omega]
        exact h2
    · obtain ⟨⟨x0, l0⟩, h3, h4⟩ := List.mem_map.1 h1
      obtain ⟨rfl, rfl⟩ := Prod.mk.inj h4
      obtain ⟨h5, h6⟩ := List.mem_filter.1 h3
      have hxo : x0 ≠ o := by simpa using h6
      obtain ⟨h7, h8⟩ := hI.obj x0 l0 h5
      exact ⟨h7, ob_move (kill_ok (o := o) h8).1 hst (kill_ok h8).2 (fun u hu => (putB_far β v' hxo).trans hu) (fun u b h9 h10 => hst0 b (hI.ltβ x0 u b h9 h10) (hne x0 u b hxo h9 h10).1)⟩
  · intro x u b hx hk hFb
    rcases key x u hx with ⟨rfl, rfl⟩ | ⟨_, h1⟩
    · rcases hat with h | h
      · exact hF b hFb (by rw [hb, ← h, ← hb']; exact (owns_Blk hown').1 hk)
      · have hk := (owns_Blk hown').1 hk; rw [hb', h] at hk; have := hI.lt b hFb; have := Option.some.inj hk; omega
    · exact hI.apart x u b h1 hk hFb
  · intro x y u u' b hx hy hk hk'
    rcases key x u hx with ⟨rfl, rfl⟩ | ⟨h1, h2⟩ <;> rcases key y u' hy with ⟨rfl, rfl⟩ | ⟨h3, h4⟩
    · rfl
    · exact absurd ((owns_Blk hown').1 hk) (hne y u' b h3 h4 hk').2
    · exact absurd ((owns_Blk hown').1 hk') (hne x u b h1 h2 hk).2
    · exact hI.inj x y u u' b h2 h4 hk hk'
  · intro b hFb; exact Nat.lt_of_lt_of_le (hI.lt b hFb) hg.size
  · intro x u b hx hk
    rcases key x u hx with ⟨rfl, rfl⟩ | ⟨_, h1⟩
    · exact hlt' b ((owns_Blk hown').1 hk)
    · exact Nat.lt_of_lt_of_le (hI.ltβ x u b h1 hk) hg.size
  · intro b hlt hn
    refine hst0 b hlt (fun e => ?_)
    rcases hv with h | ⟨l, hm, h⟩
    · rw [h] at e; cases e
    · exact hn o l v hm h (Blk_of e)
  · intro x l u b hm hx hk hlt
    rcases List.mem_cons.1 hm with e1 | hm
    · obtain ⟨rfl, rfl⟩ := Prod.mk.inj e1
      rw [putB_same] at hx
      obtain rfl := Option.some.inj hx
      have hk := (owns_Blk hown').1 hk
      rcases hat with h | h
      · rcases hv with h2 | ⟨l0, hm0, h2⟩
        · rw [hb', h, ← hb, h2] at hk; cases hk
        · exact ⟨_, l0, v, hm0, h2, Blk_of (by rw [hb, ← h, ← hb']; exact hk)⟩
      · rw [hb', h] at hk; have := Option.some.inj hk; omega
    · obtain ⟨⟨x0, l0⟩, h3, h4⟩ := List.mem_map.1 hm
      obtain ⟨rfl, rfl⟩ := Prod.mk.inj h4
      obtain ⟨h5, h6⟩ := List.mem_filter.1 h3
      have hxo : x0 ≠ o := by simpa using h6
      rw [putB_far β v' hxo] at hx
      exact ⟨_, l0, u, h5, hx, hk⟩
end mem
end Go.Proofs.Ytobfnncpjkeloaa.Ev
