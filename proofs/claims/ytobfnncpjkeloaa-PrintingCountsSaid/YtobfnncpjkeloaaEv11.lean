import Derived.Test.YtobfnncpjkeloaaEv10
namespace Go.Proofs.Ytobfnncpjkeloaa.Ev
open Go Go.RowKit Go.Proofs.YtobfnncpjkeloaaW.PrintLast
/-! #### rows that agree where they are read -/
inductive agS : PS → PS → Prop
  | refl (s) : agS s s
  | view {n e : Nat} {r1 r2 : Nat → Nat → PS} (h : ∀ i j, i < n → j < e → agS (r1 i j) (r2 i j)) : agS (.view n e r1) (.view n e r2)
  | none (e : Nat) (row : Nat → Nat → PS) : agS .nils (.view 0 e row)
theorem agS.of_eq {s t : PS} (h : s = t) : agS s t := h ▸ .refl s
theorem agS.eqs {n e : Nat} {r1 r2 : Nat → Nat → PS} (h : ∀ i j, i < n → j < e → r1 i j = r2 i j) : agS (.view n e r1) (.view n e r2) := .view fun i j hi hj => .of_eq (h i j hi hj)
def agV1 : PV → PV → Prop
  | .one s, .one t => agS s t
  | .agg l, .agg m => All2 agS l m
  | v, w => v = w
def agV : PV → PV → Prop
  | .one s, .one t => agS s t
  | .agg l, .agg m => All2 agS l m
  | .tup l, .tup m => All2 agV1 l m
  | v, w => v = w
def agH (H1 H2 : Heap) : Prop := H1 = H2 ∨ ∃ (o t e n : Nat) (r1 r2 : Nat → Nat → PS) (R : Heap), H1 = (o, .rows t e n r1) :: R ∧ H2 = (o, .rows t e n r2) :: R ∧ (∀ i j, i < n → j < e → agS (r1 i j) (r2 i j)) ∧ ∀ p ∈ R, p.1 ≠ o
section ag
variable {nb : Nat} {w : World} {F : Nat → Prop} {β : Blocks}
theorem RF_ag {s t : PS} {v : Value} (h : RF w F s v) (a : agS s t) : RF w F t v := by
  induction a generalizing v with
  | refl => exact h
  | view ha ih =>
    cases h with
    | view0 e row A c => exact .view0 _ _ _ _
    | view n e row b off c val h0 hnc hb hcell hr => exact .view _ _ _ b off c val h0 hnc hb hcell (fun i j hi hj => ih i j hi hj (hr i j hi hj))
  | none e row =>
    cases h
    exact .view0 _ _ _ _
theorem RS_ag {s t : PS} {v : Value} (h : RS w F β s v) (a : agS s t) : RS w F β t v := by
  cases a with
  | refl => exact h
  | view ha => exact RF_ag (s := .view _ _ _) h (.view ha)
  | none e row => exact RF_ag (s := .nils) h (.none e row)
theorem okS_ag {ok : Nat → Bool} {s t : PS} (h : okS ok s = true) (a : agS s t) : okS ok t = true := by
  cases a with
  | refl => exact h
  | view _ => rfl
  | none _ _ => rfl
theorem RSs_ag {l m : List PS} (a : All2 agS l m) : ∀ {us : List Value}, All2 (RS w F β) l us → All2 (RS w F β) m us := by
  induction a with
  | nil => exact fun h => h
  | cons q1 _ ih => intro us h; cases h with
    | cons q2 q3 => exact .cons (RS_ag q2 q1) (ih q3)
theorem okSs_ag {ok : Nat → Bool} {l m : List PS} (a : All2 agS l m) (h : l.all (okS ok) = true) : m.all (okS ok) = true := by
  induction a with
  | nil => exact h
  | cons q1 _ ih =>
    rw [List.all_cons, Bool.and_eq_true] at h ⊢
    exact ⟨okS_ag h.1 q1, ih h.2⟩
theorem RV1_ag {s t : PV} {v : Value} (h : RV1 w F β s v) (a : agV1 s t) : RV1 w F β t v := by
  cases s <;> cases t <;> first | exact RS_ag h a | (obtain ⟨us, rfl, h1⟩ := h; exact ⟨us, rfl, RSs_ag a h1⟩) | (simp only [agV1] at a; first | (rw [← a]; exact h) | cases a)
theorem okV1_ag {ok : Nat → Bool} {s t : PV} (h : okV1 ok s = true) (a : agV1 s t) : okV1 ok t = true := by
  cases s <;> cases t <;> first | exact okS_ag h a | exact okSs_ag a h | (simp only [agV1] at a; first | (rw [← a]; exact h) | cases a)
theorem RN_ag {s t : PV} {v : Value} (h : RN nb w F β s v) (a : agV s t) : RN nb w F β t v := by
  have same : s = t → RN nb w F β t v := fun e => e ▸ h
  cases s <;> cases t
  case one.one => exact ⟨RS_ag h.1 a, okS_ag h.2 a⟩
  case agg.agg => obtain ⟨⟨us, rfl, h1⟩, h2⟩ := h; exact ⟨⟨us, rfl, RSs_ag a h1⟩, okSs_ag a h2⟩
  case tup.tup l m =>
    obtain ⟨⟨us, rfl, h1⟩, h2⟩ := h
    have a' : All2 agV1 l m := a
    have h2' : l.all (okV1 fun y => decide (y < nb)) = true := h2
    have key : All2 (RV1 w F β) m us ∧ m.all (okV1 fun y => decide (y < nb)) = true := by
      clear same a h2
      induction a' generalizing us with
      | nil => exact ⟨h1, rfl⟩
      | cons q1 _ ih =>
        cases h1 with
        | cons q2 q3 =>
          rw [List.all_cons, Bool.and_eq_true] at h2'
          obtain ⟨q4, q5⟩ := ih _ q3 h2'.2
          exact ⟨.cons (RV1_ag q2 q1) q4, by rw [List.all_cons, q5, okV1_ag h2'.1 q1]; rfl⟩
    exact ⟨⟨us, rfl, key.1⟩, key.2⟩
  all_goals exact same a
theorem Inv_ag {H1 H2 : Heap} (h : Inv nb w F β H1) (a : agH H1 H2) : Inv nb w F β H2 := by
  rcases a with rfl | ⟨o, t, e, n, r1, r2, R, rfl, rfl, ha, hR⟩
  · exact h
  · refine ⟨fun x l l' h1 h2 => ?_, fun x l h1 => ?_, h.apart, h.inj, h.lt, h.ltβ⟩
    · rcases List.mem_cons.1 h1 with e1 | h1 <;> rcases List.mem_cons.1 h2 with e2 | h2
      · rw [(Prod.mk.inj e1).2, (Prod.mk.inj e2).2]
      · exact absurd (Prod.mk.inj e1).1 (hR _ h2)
      · exact absurd (Prod.mk.inj e2).1 (hR _ h1)
      · exact h.uniq x l l' (List.mem_cons_of_mem _ h1) (List.mem_cons_of_mem _ h2)
    · rcases List.mem_cons.1 h1 with e1 | h1
      · obtain ⟨rfl, rfl⟩ := Prod.mk.inj e1
        obtain ⟨q1, v, xs, q2, q3, q4⟩ := h.obj x _ (List.mem_cons_self ..)
        exact ⟨q1, v, xs, q2, q3, fun i j hi hj => by obtain ⟨u, q5, q6⟩ := q4 i j hi hj; exact ⟨u, q5, RF_ag q6 (ha i j hi hj)⟩⟩
      · exact h.obj x l (List.mem_cons_of_mem _ h1)
theorem Run_ag {ok : Nat → Bool} {w0 : World} {F0 : Nat → Prop} {β0 : Blocks} {H0 H1 H2 : Heap} (h : Run ok w0 F0 β0 H0 w F β H1) (a : agH H1 H2) : Run ok w0 F0 β0 H0 w F β H2 := by
  rcases a with rfl | ⟨o, t, e, n, r1, r2, R, rfl, rfl, ha, hR⟩
  · exact h
  · refine ⟨h.step, h.frame, fun x l u b hm => ?_, h.fresh⟩
    rcases List.mem_cons.1 hm with e1 | hm
    · obtain ⟨rfl, rfl⟩ := Prod.mk.inj e1
      exact h.olds x _ u b (List.mem_cons_self ..)
    · exact h.olds x l u b (List.mem_cons_of_mem _ hm)
end ag
/-- One function's answers ahead of an oracle; rows as they are where they are read. -/
theorem add_ag {P : Program} {L : Globs} {D : FuncId → PV} {M N : Orac} {g : FuncId} {A : Nat → List PV → Heap → Option (Bool × PV × Heap)} (hM : Sound P L M) (hN : Sound P L N) (hm : P.follows .mixedOrders = true)
    (h : ∀ nb vs H v H', A nb vs H = some (true, v, H') → ∃ fl v1 H1, callF P L D fl N nb g vs H = some (v1, H1) ∧ agV v1 v ∧ agH H1 H') : Sound P L (addM g A M) := by
  intro nb f vs H v H' e w F β us hL hI hus
  unfold addM at e
  split at e
  · rename_i hf
    subst hf
    obtain ⟨fl, v1, H1, h1, h2, h3⟩ := h nb vs H v H' e
    obtain ⟨q1, q2⟩ := callF_ok hN hm fl nb f vs H v1 H1 (by unfold upM; rw [h1]; rfl) w F β us hL hI hus
    refine ⟨q1, q2.mono ?_⟩
    rintro e w' ⟨u, F', β', rfl, q3, q4, q5⟩
    exact ⟨u, F', β', rfl, RN_ag q3 h2, Inv_ag q4 h3, Run_ag q5 h3⟩
  · exact hM nb f vs H v H' e w F β us hL hI hus
/-- A table that holds of arguments holds of those that agree with them. -/
theorem ag_in {P : Program} {L : Globs} {M : Orac} {g : FuncId} {A A' : Nat → List PV → Heap → Option (Bool × PV × Heap)} (hM : Sound P L M) (hS : Sound P L (addM g A M))
    (h : ∀ nb vs H v H', A' nb vs H = some (true, v, H') → ∃ vs', All2 agV vs vs' ∧ A nb vs' H = some (true, v, H')) : Sound P L (addM g A' M) := by
  intro nb f vs H v H' e w F β us hL hI hus
  unfold addM at e
  split at e
  · rename_i hf
    subst hf
    obtain ⟨vs', h1, h2⟩ := h nb vs H v H' e
    refine hS nb f vs' H v H' (by unfold addM; rw [if_pos rfl]; exact h2) w F β us hL hI ?_
    clear e h2 h
    induction h1 generalizing us with
    | nil => exact hus
    | cons q1 _ ih => cases hus with
      | cons q2 q3 => exact .cons (RN_ag q2 q1) (ih _ q3)
  · exact hM nb f vs H v H' e w F β us hL hI hus
theorem okS_mono {s : PS} {ok : Nat → Bool} (h : okS (fun _ => false) s = true) : okS ok s = true := by cases s <;> first | rfl | cases h
theorem okV1_mono {v : PV} {ok : Nat → Bool} (h : okV1 (fun _ => false) v = true) : okV1 ok v = true := by
  cases v with
  | one s => exact okS_mono h
  | agg l => exact List.all_eq_true.2 fun s hs => okS_mono (List.all_eq_true.1 h s hs)
  | fn f l => exact List.all_eq_true.2 fun s hs => okS_mono (List.all_eq_true.1 h s hs)
  | tup l => cases h
theorem okV_mono {v : PV} {ok : Nat → Bool} (h : okV (fun _ => false) v = true) : okV ok v = true := by
  cases v with
  | one s => exact okS_mono h
  | agg l => exact List.all_eq_true.2 fun s hs => okS_mono (List.all_eq_true.1 h s hs)
  | fn f l => exact List.all_eq_true.2 fun s hs => okS_mono (List.all_eq_true.1 h s hs)
  | tup l => exact List.all_eq_true.2 fun s hs => okV1_mono (List.all_eq_true.1 h s hs)
/-- The same, where what is handed back is only read from then on. -/
theorem add_fz {P : Program} {L : Globs} {D : FuncId → PV} {M N : Orac} {g : FuncId} {A : List PV → Option (Bool × PV)} (hM : Sound P L M) (hN : Sound P L N) (hm : P.follows .mixedOrders = true)
    (h : ∀ vs v, A vs = some (true, v) → ∃ fl v1 H1, callF P L D fl N 0 g vs [] = some (v1, H1) ∧ agV (frzV 0 none H1 v1) v ∧ okV (fun _ => false) (frzV 0 none H1 v1) = true) : Sound P L (addM g (fun nb vs H => match nb, H with | 0, [] => (A vs).map (fun r => (r.1, r.2, [])) | _, _ => none) M) := by
  intro nb f vs H v H' e w F β us hL hI hus
  unfold addM at e
  split at e
  · rename_i hf
    subst hf
    dsimp only at e
    split at e
    case h_2 => cases e
    cases hA : A vs with
    | none => rw [hA] at e; cases e
    | some r =>
      rw [hA] at e
      obtain ⟨b, v0⟩ := r
      have e' : (b, v0, ([] : Heap)) = (true, v, H') := Option.some.inj e
      obtain ⟨rfl, e2⟩ := Prod.mk.inj e'
      obtain ⟨rfl, rfl⟩ := Prod.mk.inj e2
      obtain ⟨fl, v1, H1, h1, h2, h3⟩ := h vs v0 hA
      obtain ⟨q1, q2⟩ := callF_ok hN hm fl 0 f vs [] v1 H1 (by unfold upM; rw [h1]; rfl) w F β us hL hI hus
      refine ⟨q1, q2.mono ?_⟩
      rintro e w' ⟨u, F', β', rfl, q3, q4, q5⟩
      have e0 : okX 0 (none : Option Nat) = fun _ => false := by funext y; simp [okX]
      have hv := frzV_ok (base := 0) (x := none) q4 q3.1 (by rw [e0]; exact h3)
      have hl : lowH 0 none H1 = some [] := by
        have : H1.filter (fun x => decide (x.1 < 0)) = [] := List.filter_eq_nil_iff.2 (by simp)
        unfold lowH
        rw [this]
        rfl
      have hn : okV (fun y => decide (y < 0 + 1)) (frzV 0 none H1 v1) = true := okV_mono h3
      refine ⟨u, endFF 0 none F' β' H1, endB 0 none β', rfl, RN_ag ⟨hv, hn⟩ h2, (low_ok (base := 0) (x := none) q4 hl).1 [] (fun p hp => nomatch hp), ⟨⟨q5.step.os, q5.step.tape, q5.step.output, q5.step.size, fun b hb => ⟨.inl (q5.step.read b hb).1, (q5.step.read b hb).2⟩, fun o u ho => ?_⟩, q5.frame, fun o l u b hm => (nomatch hm), fun b hF hb => ?_⟩⟩
      · simp [lowK] at ho
      · rcases hF with hF | ⟨o, l, u1, hm, _, _, ho, hk⟩
        · exact q5.fresh b hF hb
        · obtain ⟨o0, l0, u0, p1, _⟩ := q5.olds o l u1 b hm ho hk hb
          exact nomatch p1
  · exact hM nb f vs H v H' e w F β us hL hI hus
theorem agSs_refl : ∀ l : List PS, All2 agS l l
  | [] => .nil
  | s :: l => .cons (.refl s) (agSs_refl l)
theorem agV_refl (v : PV) : agV v v := by
  cases v with
  | one s => exact .refl s
  | agg l => exact agSs_refl l
  | tup l =>
    show All2 agV1 l l
    induction l with
    | nil => exact .nil
    | cons x l ih =>
      refine .cons ?_ ih
      cases x <;> first | exact agS.refl _ | exact agSs_refl _ | rfl
  | _ => rfl
/-- The code with another one at a place: to walk up to that place (the other one a variable), and on from there. -/
def putAt : List Bool → Code → Code → Code
  | [], _, c => c
  | d :: p, .seq x y, c => if d = true then .seq x (putAt p y c) else .seq (putAt p x c) y
  | d :: p, .cond o x y, c => if d = true then .cond o x (putAt p y c) else .cond o (putAt p x c) y
  | _ :: p, .block id x, c => .block id (putAt p x c)
  | _ :: p, .loop x, c => .loop (putAt p x c)
  | _ :: _, x, _ => x
/-- A function's code c, with k arguments. -/
def cwAt {α : Type} (P : Program) (L : Globs) (M : Orac) (D : FuncId → PV) (ks : List Nat) (fn : Func) (k base fl : Nat) (c : Code) (E : En) (H : Heap) (K : Exit → En → Heap → Option α) : Option α := cwp P L M D (liveF fn) ks (base + (nOf fn k + nOf fn k) + 1) base (nOf fn k) fl c E H K
/-- What follows behind a place in a code of a function's. -/
def koAt {α : Type} (P : Program) (L : Globs) (M : Orac) (D : FuncId → PV) (ks : List Nat) (fn : Func) (k base fl : Nat) (p : List Bool) (c : Code) (K : Exit → En → Heap → Option α) : Exit → En → Heap → Option α := kontAt P L M D (liveF fn) ks (base + (nOf fn k + nOf fn k) + 1) base (nOf fn k) fl p c K
/-- A loop of n rounds: what is kept from round to round, the step, the end. -/
theorem loop_ex {α σ : Type} {body : En → Heap → (Exit → En → Heap → Option α) → Option α} {K : Exit → En → Heap → Option α} (E : Nat → σ → En) (H : Nat → σ → Heap) (I : Nat → σ → Prop) (n : Nat) {Z : Option α → Prop}
    (step : ∀ i s m, i < n → I i s → ∃ s', I (i + 1) s' ∧ rounds body K (m + 1) (E i s) (H i s) = rounds body K m (E (i + 1) s') (H (i + 1) s'))
    (fin : ∀ s m, I n s → Z (rounds body K (m + 1) (E n s) (H n s))) : ∀ (m i : Nat) (s : σ), i ≤ n → n < i + m → I i s → Z (rounds body K m (E i s) (H i s)) := by
  intro m
  induction m with
  | zero => intro i s h1 h2; omega
  | succ m ih =>
    intro i s h1 h2 h3
    by_cases h : i = n
    · subst h; exact fin s m h3
    · obtain ⟨s', q1, q2⟩ := step i s m (by omega) h3
      rw [q2]
      exact ih (i + 1) s' (by omega) (by omega) q1
end Go.Proofs.Ytobfnncpjkeloaa.Ev
