import Derived.Test.YtobfnncpjkeloaaEv7
namespace Go.Proofs.Ytobfnncpjkeloaa.Ev
open Go Go.RowKit Go.Proofs.YtobfnncpjkeloaaW.PrintLast
def res1 (P : Program) (E : En) (H : Heap) : ResultVar → Option PV
  | .tmp t => (match lookE E [] t with
    | some (.tup _) => none
    | r => r)
  | .cell x t => (match lookE E [] x with
    | some (.one (.ptr o 0)) => (match findH H o, kindOf P t, sizeIn P t with
      | some (.box l), some false, _ => (match l with | [s] => some (.one s) | _ => none)
      | some (.box l), some true, some n => if l.length = n then some (.agg l) else none
      | _, _, _ => none)
    | _ => none)
def resOf (P : Program) (E : En) (H : Heap) (fn : Func) : Option PV := match fn.results with
  | ⟨[r]⟩ => res1 P E H r
  | ⟨rs⟩ => (rs.mapM (res1 P E H)).map .tup
/-- What a function hands back of its own rows is only read from then on; but for one, x. -/
def frzK (base : Nat) (x : Option Nat) (H : Heap) : Nat → PS → PS
  | 0, s => s
  | m + 1, s => match s with
    | .os o => if (decide (o < base) || x == some o) = true then .os o else (match findH H o with
      | some (.rows _ e n row) => .view n e row
      | some (.out _ n b none) => if (decide (b < base) || x == some b) = true then .os o else (match findH H b with
        | some (.inn _ e _ _ len row) => .view n 1 (fun i _ => .view (len i) e (row i))
        | _ => .os o)
      | _ => .os o)
    | .ptr o off => if (decide (o < base) || x == some o) = true then .ptr o off else (match findH H o with
      | some (.box l) => if (l.map (frzK base x H m)).all noPtr = true then .vp l.length (fun j => (l.map (frzK base x H m)).getD j .nilp) off else .ptr o off
      | _ => .ptr o off)
    | s => s
abbrev frzS (base : Nat) (x : Option Nat) (H : Heap) (s : PS) : PS := frzK base x H 2 s
def frzV1 (base : Nat) (x : Option Nat) (H : Heap) : PV → PV
  | .one s => .one (frzS base x H s)
  | .agg l => .agg (l.map (frzS base x H))
  | v => v
def frzV (base : Nat) (x : Option Nat) (H : Heap) : PV → PV
  | .one s => .one (frzS base x H s)
  | .agg l => .agg (l.map (frzS base x H))
  | .tup l => .tup (l.map (frzV1 base x H))
  | v => v
/-- The row that stays the function's own, and so will be its caller's: the first one. -/
def ownS (base : Nat) (H : Heap) : PV → Option Nat
  | .one (.os o) => if base ≤ o then (match findH H o with
    | some (.rows _ _ _ _) => some o
    | _ => none) else none
  | _ => none
def ownV (base : Nat) (H : Heap) : PV → Option Nat
  | .tup l => l.findSome? (ownS base H)
  | v => ownS base H v
def okX (base : Nat) (x : Option Nat) : Nat → Bool := fun y => decide (y < base) || x == some y
def lowH (base : Nat) (x : Option Nat) (H : Heap) : Option Heap := if (H.filter (fun x => decide (x.1 < base))).all (fun p => obOk (okX base x) p.2) = true then some (H.filter (fun x => decide (x.1 < base))) else none
/-- Or a row of its own that an older object names. -/
def ownX (base : Nat) (H : Heap) (v : PV) : Option Nat := match ownV base H v with
  | some o => some o
  | none => H.findSome? fun p => if p.1 < base then (match p.2 with | .box l => l.findSome? (fun s => ownS base H (.one s)) | _ => none) else none
def endX (base : Nat) (x : Option Nat) (H : Heap) (v : PV) : Option (PV × Heap) := if okV (okX base x) (frzV base x H v) = true then (match lowH base x H with
  | some H' => (match x with
    | some o => (match findH H o with
      | some (.rows t e n row) => if base ≤ o then some (rnV o base (frzV base x H v), (base, .rows t e n row) :: rnH o base H') else none
      | _ => none)
    | none => some (frzV base x H v, H'))
  | none => none) else none
def endF (P : Program) (base : Nat) (fn : Func) (E : En) (H : Heap) : Option (PV × Heap) := match resOf P E H fn with
  | some v => endX base (ownX base H v) H v
  | none => none
/-- A function's answer. -/
def fev (P : Program) (L : Globs) (M : Orac) (D : FuncId → PV) (fl : Nat) (fn : Func) (base : Nat) (vs : List PV) (H : Heap) : Option (PV × Heap) := match fn.body with
  | some c => cwp P L M D (liveF fn) (ksOf H) (base + (vs.length + (fn.ntmps - vs.length) + (vs.length + (fn.ntmps - vs.length))) + 1) base (vs.length + (fn.ntmps - vs.length)) fl c ((List.range vs.length).zipWith (fun i v => (i, none, v)) vs) H (fun e E H' =>
    match e with
    | .ret => endF P base fn E H'
    | .normal => endF P base fn E H'
    | _ => none)
  | none => none
def callF (P : Program) (L : Globs) (D : FuncId → PV) (fl : Nat) (M : Orac) (base : Nat) (f : FuncId) (vs : List PV) (H : Heap) : Option (PV × Heap) := match P.funcs[f]? with
  | some fn => if (fn.name == "runtime.NumGoroutine") = false then fev P L M D fl fn base vs H else none
  | none => none
/-- Answers of which nothing must hold. -/
def upM (g : Nat → FuncId → List PV → Heap → Option (PV × Heap)) : Orac := fun nb f vs H => (g nb f vs H).map fun r => (true, r.1, r.2)
section sound
variable {nb base n : Nat} {P : Program} {w : World} {F : Nat → Prop} {β : Blocks} {E : En} {G : List (Nat × Bool)} {L : Globs} {H : Heap} {a : Act} {α : Type} {z : α} {M : Orac} {D : FuncId → PV} {ks : List Nat}
theorem q1_ok (hM : Sound P L M) (hL : okG w F L) (hI : Inv nb w F β H) (hE : okE nb w F β a.tmps E) {C : Bool} {o : Oper} {k : PV → Option α} (h : q1 P L M D E G C H o.op k = some z) :
    ∃ v, k v = some z ∧ (holdsG a.tmps G → C = true → ∃ u, RN nb w F β v u ∧ ∀ w', Sees w F β H w' → o.quietAt P a (Cls w') w' u) := by
  obtain ⟨dst, op, ty, pos, after, guard⟩ := o
  simp only at h
  unfold q1 at h
  split at h
  · rename_i fo xs ats
    split at h
    · rename_i f caps vs hf hvs
      split at h
      · by_cases hC : C = true
        · rw [if_pos hC] at h
          unfold cR at h
          split at h
          case isFalse => cases h
          rename_i hfl
          obtain ⟨⟨pb, v, H'⟩, h1, h2⟩ := Option.bind_eq_some_iff.1 h
          simp only at h2
          split at h2
          case isFalse => cases h2
          rename_i hpb
          subst hpb
          split at h2
          case h_2 => cases h2
          rename_i u0 hp
          refine ⟨v, h2, fun hG _ => ⟨u0, plain_rn hp, fun w' hw => ?_⟩⟩
          obtain ⟨m, hfv, hcaps⟩ := (opnd_ok hL hE hG hf).1
          have hcn := (opnd_ok hL hE hG hf).2
          obtain ⟨⟨fn, hfn, hname, hb⟩, h3⟩ := ro_call hM hL hI (all2_app_caps (mapM_opnd hL hE hG hvs) hcaps hcn) hfl h1 hp hw
          have e1 : ((#[] ++ xs.map a.eval) ++ m.toArray : Array Value) = (xs.toList.map a.eval ++ m).toArray := by apply Array.toList_inj.1; simp
          unfold Oper.quietAt
          rw [ex_call hfv, e1, enters_ hfn hname hb _ w']
          exact ⟨rfl, h3⟩
        · rw [if_neg hC] at h
          exact ⟨_, h, fun _ hC' => absurd hC' hC⟩
      split at h
      case isFalse => cases h
      rename_i hfl
      by_cases hC : C = true
      · rw [if_pos hC] at h
        obtain ⟨⟨pb, v, H'⟩, h1, h2⟩ := Option.bind_eq_some_iff.1 h
        simp only at h2
        split at h2
        case isFalse => cases h2
        rename_i hpb
        subst hpb
        split at h2
        · rename_i u0 hp
          refine ⟨v, h2, fun hG _ => ?_⟩
          obtain ⟨m, hfv, hcaps⟩ := (opnd_ok hL hE hG hf).1
          have hcn := (opnd_ok hL hE hG hf).2
          have hargs := all2_app_caps (mapM_opnd hL hE hG hvs) hcaps hcn
          have e1 : ((#[] ++ xs.map a.eval) ++ m.toArray : Array Value) = (xs.toList.map a.eval ++ m).toArray := by apply Array.toList_inj.1; simp
          have go : ∀ w', Sees w F β H w' → goesTo P f ∧ Calls P f (xs.toList.map a.eval ++ m).toArray w' (fun e w'' => e = .returned u0 ∧ Cls w' w'') := fun w' hw => by
            have hs := hw.step (fun o => decide (o < nb))
            obtain ⟨h3, h4⟩ := hM 0 f _ [] v [] h1 w' F (fun _ => none) _ (hL.step hs) (hI.start.size hw.size) (hargs.imp (fun x _ hm r => RN_none (List.all_eq_true.1 hfl x hm) 0 _ (r.step hs)))
            refine ⟨h3, h4.mono ?_⟩
            rintro e w'' ⟨u, F', β', rfl, h5, h6, h7⟩
            exact ⟨by rw [plainV_ok hp h5], ⟨h7.step.os, h7.step.tape, h7.step.output, h7.step.size, fun b hb => h7.frame b hb (fun _ _ _ hm => nomatch hm)⟩⟩
          have hplain : RN nb w F β v u0 := plain_rn hp
          refine ⟨u0, hplain, fun w' hw => ?_⟩
          obtain ⟨⟨fn, hfn, hname, hb⟩, h4⟩ := go w' hw
          unfold Oper.quietAt
          rw [ex_call hfv, e1, enters_ hfn hname hb _ w']
          exact ⟨rfl, h4⟩
        · cases h2
      · rw [if_neg hC] at h
        exact ⟨_, h, fun _ hC' => absurd hC' hC⟩
    · cases h
  · obtain ⟨v, h1, h2⟩ := vq_ok (o := ⟨dst, op, ty, pos, after, guard⟩) hL hI hE h
    refine ⟨v, h1, fun hG hC => ?_⟩
    obtain ⟨u, h3, h4⟩ := h2 hG hC
    refine ⟨u, h3, fun w' hw => ?_⟩
    unfold Oper.quietAt
    rw [h4 w' hw]
    exact ⟨rfl, rfl⟩
theorem Inv.sub {H' : Heap} (h : Inv nb w F β H') (hs : ∀ x, x ∈ H → x ∈ H') : Inv nb w F β H := ⟨fun o l l' h1 h2 => h.uniq o l l' (hs _ h1) (hs _ h2), fun o l h1 => h.obj o l (hs _ h1), h.apart, h.inj, h.lt, h.ltβ⟩
theorem Run.sub {ok : Nat → Bool} {w' : World} {F' : Nat → Prop} {β' : Blocks} {H' H'' : Heap} (h : Run ok w F β H w' F' β' H') (hs : ∀ x, x ∈ H'' → x ∈ H') : Run ok w F β H w' F' β' H'' := ⟨h.step, h.frame, fun o l u b h1 => h.olds o l u b (hs _ h1), h.fresh⟩
theorem hOf_sub {R : Nat → List Nat} {bs : List Nat} {k : Nat} {x : Nat × OB} (h : x ∈ hOf R bs H k) : x ∈ H := by
  unfold hOf at h
  cases hb : bs.contains k with
  | true => rw [hb] at h; exact (List.mem_filter.1 h).1
  | false => rw [hb] at h; exact h
theorem qwp_ok (hM : Sound P L M) (hL : okG w F L) {ops : Array Oper} {R : Act → Prop} {Hf : Nat → Heap} {S : Nat → World → Prop} (hI : ∀ k, Inv nb w F β (Hf k)) (hS : ∀ k w1, S k w1 → Sees w F β (Hf k) w1) : ∀ (l : List (Nat × Oper)) (E : En) (a : Act) (K : En → Option α), qwp P L M D nb base n ops Hf l E K = some z → okE nb w F β a.tmps E → a.tmps.size = n →
    (∀ (a' : Act) (E' : En), a'.tmps.size = n → a'.defers = a.defers → okE nb w F β a'.tmps E' → K E' = some z → R a') → wpQT P ops S R l a := by
  intro l
  induction l with
  | nil => intro E a K h hE hn hQ; exact hQ a E hn rfl hE h
  | cons p r ih =>
    obtain ⟨kk, o⟩ := p
    intro E a K h hE hn hQ
    have hput : ∀ (u : Value), (a.put o.dst u).tmps.size = n := fun u => by cases hd : o.dst <;> simp [Act.put, hn]
    have hdef : ∀ (u : Value), (a.put o.dst u).defers = a.defers := fun u => by cases hd : o.dst <;> rfl
    unfold qwp at h
    unfold wpQT
    split at h
    · rename_i hg
      obtain ⟨v, h1, h3⟩ := q1_ok hM hL (hI kk) hE h
      obtain ⟨u, h4, h5⟩ := h3 (fun g hg => by cases hg) rfl
      refine ⟨u, .inl ⟨by simp [Region.wanted, hg], fun w1 hw1 => h5 w1 (hS kk w1 hw1)⟩, ?_⟩
      split at h1
      · rename_i E' hf
        exact ih E' _ K h1 (fin_ok (H := []) (H' := []) hE hn (Run.refl _ _ _ _ _) (fun _ => h4) (fun s b e => by cases e) hf) (hput u) (fun a' E'' q1 q2 q3 q4 => hQ a' E'' q1 (q2.trans (hdef u)) q3 q4)
      · cases h1
    · rename_i j b hg
      split at h
      · rename_i s hs
        split at h
        case isFalse => cases h
        rename_i hss
        obtain ⟨v, h1, h3⟩ := q1_ok hM hL (hI kk) hE h
        split at h1
        · rename_i E' hf
          by_cases hw : a.tmps.getD s undef = .bool b
          · have hG := gs_ok hE hw
            obtain ⟨u, h4, h5⟩ := h3 hG (cond_ok hE _ hG)
            exact ⟨u, .inl ⟨by simp only [Region.wanted, hg]; exact (yielded_iff hs (by rw [hn]; exact hss.1)).2 hw, fun w1 hw1 => h5 w1 (hS kk w1 hw1)⟩, ih E' _ K h1 (fin_ok (H := []) (H' := []) hE hn (Run.refl _ _ _ _ _) (fun _ => h4) (fun s' b' e => by obtain ⟨rfl, rfl⟩ := Prod.mk.inj (Option.some.inj e); exact ⟨hss.2, hw⟩) hf) (hput u) (fun a' E'' q1 q2 q3 q4 => hQ a' E'' q1 (q2.trans (hdef u)) q3 q4)⟩
          · refine ⟨undef, .inr ⟨Bool.eq_false_iff.2 (by simp only [Region.wanted, hg]; exact fun e => hw ((yielded_iff hs (by rw [hn]; exact hss.1)).1 e)), rfl⟩, ?_⟩
            exact ih E' _ K h1 (skip_ok hE hn hss.2 hw hf) (hput _) (fun a' E'' q1 q2 q3 q4 => hQ a' E'' q1 (q2.trans (hdef _)) q3 q4)
        · cases h1
      · cases h
/-- One operation, which does not touch the objects of hid. -/
def DoesH (P : Program) (nb : Nat) (w : World) (F : Nat → Prop) (β : Blocks) (H : Heap) (hid : List Nat) (a : Act) (o : Oper) (ok : Nat → Bool) (v : PV) (H' : Heap) : Prop := ∀ (Kc : Act → World → Prop) (Q : Exit → Act → World → Prop),
  (∀ (w' : World) (F' : Nat → Prop) (β' : Blocks) (u : Value), (o.dst ≠ none → RN nb w' F' β' v u) → Inv nb w' F' β' H' → Run ok w F β H w' F' β' H' → (freshOp o.op = true → Cls w w') → (∀ x ∈ hid, ∀ u b, β x = some u → Blk u b → w'.heap[b]? = w.heap[b]?) → Kc (a.put o.dst u) w') → o.wp P a w Kc Q
theorem o1H_ok (hM : Sound P L M) (hL : okG w F L) (hI : Inv nb w F β H) (hE : okE nb w F β a.tmps E) {hid : List Nat} {C St : Bool} {o : Oper} {k : PV → Heap → List Nat → Option α} (h : o1H P L M D ks nb base hid E G C St H o.dst o.op k = some z) :
    ∃ v H' kl, k v H' kl = some z ∧ (∀ x ∈ kl, lowK base ks x = false) ∧ (∀ x ∈ hid, x ∉ kl) ∧ ((∀ x, x ∈ H' → x ∈ H) ∨ (St = true ∧ C = true)) ∧ (holdsG a.tmps G → C = true → DoesH P nb w F β H hid a o (fun x => okOf kl x && decide (x < nb)) v H') := by
  unfold o1H at h
  split at h
  · obtain ⟨v, H', kl, h1, h2, h3, h4⟩ := o1_ok hM hL hI hE h
    refine ⟨v, H', kl, h1, h2, (fun x hx => (nomatch hx)), h3.imp (fun e x hx => by rw [e] at hx; exact hx) id, fun hG hC Kc Q hk => h4 hG hC Kc Q (fun w' F' β' u q1 q2 q3 q4 => hk w' F' β' u q1 q2 q3 q4 (fun x hx => (nomatch hx)))⟩
  · rename_i hne
    clear hne
    have hsub : ∀ x, x ∈ hideH hid H → x ∈ H := fun x hx => (List.mem_filter.1 hx).1
    obtain ⟨v, H1, kl, h1, h2, h3, h4⟩ := o1_ok hM hL (hI.sub hsub) hE h
    split at h1
    case isFalse => cases h1
    rename_i hok
    simp only [hokB, Bool.and_eq_true] at hok
    obtain ⟨k1, k2, k3⟩ := hok
    have hkl : ∀ x ∈ hid, x ∉ kl := fun x hx hk => by
      have := List.all_eq_true.1 k1 x hk
      simp [hx] at this
    have hnew : ∀ p, p ∈ H1 → p.1 ∉ hid := fun p hp => by simpa using List.all_eq_true.1 k2 p hp
    refine ⟨v, _, kl, h1, h2, hkl, h3.imp (fun e x hx => ?_) id, fun hG hC Kc Q hk => h4 hG hC Kc Q (fun w' F' β' u q1 q2 q3 q4 => ?_)⟩
    · rcases List.mem_append.1 (ordH_sub hx) with q | q
      · exact hsub _ (e ▸ q)
      · exact (List.mem_filter.1 q).1
    · have hst : ∀ x ∈ hid, ∀ u b, β x = some u → Blk u b → w'.heap[b]? = w.heap[b]? := fun x hx u b hu hb => q3.frame b (hI.ltβ x u b hu hb) (fun o l u' m1 m2 m3 => by
        obtain rfl := hI.inj x o u u' b hu m2 hb m3
        have := (List.mem_filter.1 m1).2
        simp [hx] at this)
      have hshow : ∀ p, p ∈ showH hid H → p ∈ H ∧ p.1 ∈ hid := fun p hp => by
        obtain ⟨a1, a2⟩ := List.mem_filter.1 hp
        exact ⟨a1, by simpa using a2⟩
      have own : ∀ p, p ∈ showH hid H → ∀ u, β p.1 = some u → β' p.1 = some u := fun p hp u hu => by
        obtain ⟨a1, a2⟩ := hshow p hp
        refine q3.step.own _ u ?_ hu
        rw [Bool.and_eq_true]
        exact ⟨by simpa [okOf] using hkl _ a2, by simpa using (hI.obj p.1 p.2 a1).1⟩
      have hobj : ∀ o l, (o, l) ∈ showH hid H → o < nb ∧ okOB nb w' F' β' o l := fun o l hp => by
        obtain ⟨a1, a2⟩ := hshow _ hp
        obtain ⟨a3, a4⟩ := hI.obj o l a1
        exact ⟨a3, ob_move a4 q3.step (List.all_eq_true.1 k3 _ hp) (fun u hu => own _ hp u hu) (fun u b hu hb => hst o a2 u b hu hb)⟩
      have hInv : Inv nb w' F' β' (H1 ++ showH hid H) := ⟨fun o l l' m1 m2 => by
        rcases List.mem_append.1 m1 with m1 | m1 <;> rcases List.mem_append.1 m2 with m2 | m2
        · exact q2.uniq o l l' m1 m2
        · exact absurd (hshow (o, l') m2).2 (hnew (o, l) m1)
        · exact absurd (hshow (o, l) m1).2 (hnew (o, l') m2)
        · exact hI.uniq o l l' (hshow _ m1).1 (hshow _ m2).1, fun o l m => (List.mem_append.1 m).elim (q2.obj o l) (hobj o l), q2.apart, q2.inj, q2.lt, q2.ltβ⟩
      refine hk w' F' β' u q1 (hInv.sub (fun x hx => ordH_sub hx)) ⟨q3.step, fun b hb hno => q3.frame b hb (fun o l u m => hno o l u (hsub _ m)), fun o l u b m1 m2 m3 m4 => ?_, fun b m1 m2 => ?_⟩ q4 hst
      · rcases List.mem_append.1 (ordH_sub m1) with m | m
        · obtain ⟨o0, l0, u0, c1, c2, c3⟩ := q3.olds o l u b m m2 m3 m4
          exact ⟨o0, l0, u0, hsub _ c1, c2, c3⟩
        · obtain ⟨a1, a2⟩ := hshow _ m
          obtain ⟨u0, hu0⟩ : ∃ u0, β o = some u0 := ob_has (hI.obj o l a1).2
          have := own _ m u0 hu0
          rw [m2] at this
          obtain rfl := Option.some.inj this
          exact ⟨o, l, u, a1, hu0, m3⟩
      · rcases q3.fresh b m1 m2 with c | ⟨o, l, u, c1, c2, c3⟩
        · exact .inl c
        · exact .inr ⟨o, l, u, hsub _ c1, c2, c3⟩
theorem stepH_ok (hM : Sound P L M) (hnb : base ≤ nb) {ops : Array Oper} {hid : List Nat} {o : Oper} {K : En → Heap → Option α} {Kc : Act → World → Prop} {Q : Exit → Act → World → Prop} (h : stepH P L M D ks nb base n ops hid o E H K = some z) (hL : okG w F L) (hI : Inv nb w F β H) (hE : okE nb w F β a.tmps E) (hn : a.tmps.size = n)
    (hc : ∀ (u : Value) (w' : World) (F' : Nat → Prop) (β' : Blocks) (E' : En) (H' : Heap), okG w' F' L → Inv nb w' F' β' H' → okE nb w' F' β' (a.put o.dst u).tmps E' → Run (lowK base ks) w F β H w' F' β' H' → (∀ x ∈ hid, x < nb → ∀ u, β x = some u → β' x = some u) → (∀ x ∈ hid, x < nb → ∀ u b, β x = some u → Blk u b → w'.heap[b]? = w.heap[b]?) → (plainAlloc o = true → Cls w w') → (Region.wanted o (yielded ops a.tmps) = false → w' = w ∧ u = undef) → K E' H' = some z → Kc (a.put o.dst u) w') :
    if Region.wanted o (yielded ops a.tmps) = true then o.wp P a w Kc Q else Kc (a.put o.dst undef) w := by
  unfold stepH at h
  split at h
  case isFalse => cases h
  rename_i hpre
  obtain ⟨F1, β1, E1, H1, h, hL1, hI1, hE1, hR1⟩ := frzN_ok' _ E H F β _ h hL hI hE
  have hown1 : ∀ x ∈ hid, ∀ u, β x = some u → β1 x = some u := fun x hx u hu => hR1.step.own x u (by
    rw [Bool.or_eq_true]
    right
    simp only [Bool.not_eq_true', List.contains_eq_mem, decide_eq_false_iff_not]
    intro hm
    have := List.all_eq_true.1 hpre x hm
    simp [hx] at this) hu
  have hRl : Run (lowK base ks) w F β H w F1 β1 H1 := hR1.weaken (fun x hx => by rw [Bool.or_eq_true, decide_eq_true_eq]; exact .inl (low_lt hx))
  have hok : ∀ {kl : List Nat}, (∀ x ∈ kl, lowK base ks x = false) → ∀ x, lowK base ks x = true → (okOf kl x && decide (x < nb)) = true := fun {kl} hkl => low_ok1 hnb hkl
  split at h
  · rename_i hg
    rw [if_pos (by simp [Region.wanted, hg])]
    obtain ⟨v, H', kl, h1, hkl, hkh, _, h3⟩ := o1H_ok hM hL1 hI1 hE1 h
    refine h3 (fun g hg => by cases hg) rfl _ Q (fun w' F' β' u hu hI' hr hfr hst => ?_)
    split at h1
    · rename_i E' hf
      refine hc u w' F' β' E' H' (hL1.step hr.step) hI' (fin_ok hE1 hn hr hu (fun s b e => by cases e) hf) (hRl.trans (hr.weaken (hok hkl))) (fun x hx hlt u hu => hr.step.own x u (by rw [Bool.and_eq_true]; exact ⟨by simpa [okOf] using hkh x hx, by simpa using hlt⟩) (hown1 x hx u hu)) (fun x hx _ u b hu hb => hst x hx u b (hown1 x hx u hu) hb) (fun hal => hfr (by simp only [plainAlloc, Bool.and_eq_true] at hal; exact hal.1)) (fun hw => by simp [Region.wanted, hg] at hw) h1
    · cases h1
  · rename_i j b hg
    split at h
    · rename_i s hs
      split at h
      case isFalse => cases h
      rename_i hss
      obtain ⟨v, H', kl, h1, hkl, hkh, h2, h3⟩ := o1H_ok hM hL1 hI1 hE1 h
      split at h1
      · rename_i E' hf
        by_cases hw : a.tmps.getD s undef = .bool b
        · have hw' : Region.wanted o (yielded ops a.tmps) = true := by simp only [Region.wanted, hg]; exact (yielded_iff hs (by rw [hn]; exact hss.1)).2 hw
          rw [if_pos hw']
          have hG := gs_ok hE1 hw
          refine h3 hG (cond_ok hE1 _ hG) _ Q (fun w' F' β' u hu hI' hr hfr hst => ?_)
          refine hc u w' F' β' E' H' (hL1.step hr.step) hI' (fin_ok hE1 hn hr hu (fun s' b' e => by obtain ⟨rfl, rfl⟩ := Prod.mk.inj (Option.some.inj e); exact ⟨hss.2, hw⟩) hf) (hRl.trans (hr.weaken (hok hkl))) (fun x hx hlt u hu => hr.step.own x u (by rw [Bool.and_eq_true]; exact ⟨by simpa [okOf] using hkh x hx, by simpa using hlt⟩) (hown1 x hx u hu)) (fun x hx _ u b hu hb => hst x hx u b (hown1 x hx u hu) hb) (fun hal => by simp [plainAlloc, hg] at hal) (fun hw2 => by rw [hw'] at hw2; cases hw2) h1
        · rw [if_neg (by simp only [Region.wanted, hg]; exact fun e => hw ((yielded_iff hs (by rw [hn]; exact hss.1)).1 e))]
          have hHH : ∀ x, x ∈ H' → x ∈ H1 := by
            rcases h2 with h2 | ⟨h2, h4⟩
            · exact h2
            · exact absurd (strict_ok hE1 8 s b h2 h4 (s, b) (List.mem_cons_self ..)) hw
          exact hc undef w F1 β1 E' H' hL1 (hI1.sub hHH) (skip_ok hE1 hn hss.2 hw hf) (hRl.sub hHH) (fun x hx _ u hu => hown1 x hx u hu) (fun _ _ _ _ _ _ _ => rfl) (fun _ => Cl0.rfl) (fun _ => ⟨rfl, rfl⟩) h1
      · cases h1
    · cases h
theorem Sees.clsH {w0 w1 w2 : World} {F0 : Nat → Prop} {β0 : Blocks} {H0 : Heap} {nb : Nat} (hI : Inv nb w0 F0 β0 H0) (h : Sees w0 F0 β0 H0 w1) (c : Cls w1 w2) : Sees w0 F0 β0 H0 w2 := ⟨c.os.trans h.os, c.tape.trans h.tape, c.output.trans h.output, Nat.le_trans h.size c.size, fun b hb => by
  refine (c.block b (Nat.lt_of_lt_of_le ?_ h.size)).trans (h.block b hb)
  rcases hb with hb | ⟨o, l, u, m1, m2, m3⟩
  · exact hI.lt b hb
  · exact hI.ltβ o u b m2 m3⟩
theorem hid_mono {R : Nat → List Nat} {bs : List Nat} {ops : Array Oper} {p : Nat × Oper} {r : List (Nat × Oper)} {x : Nat} (h : x ∈ hidOf R bs ops r) : x ∈ hidOf R bs ops (p :: r) := by
  obtain ⟨i, h1, h2⟩ := List.mem_flatMap.1 h
  refine List.mem_flatMap.2 ⟨i, h1, ?_⟩
  split at h2
  · rename_i hc
    rw [if_pos (by rw [List.any_cons, hc, Bool.or_true])]; exact h2
  · cases h2
/-- The rest of a region that draws its order: one by one, with quiet calls' memory made in between. -/
theorem rwpT_ok (hM : Sound P L M) (hnb : base ≤ nb) {ops : Array Oper} {w0 : World} {F0 : Nat → Prop} {β0 : Blocks} {H0 : Heap} {R : Nat → List Nat} {ds bs : List Nat} {Q : Exit → Act → World → Prop} (hI0 : Inv nb w0 F0 β0 H0) : ∀ (l : List (Nat × Oper)) (E : En) (H : Heap) (a : Act) (w : World) (F : Nat → Prop) (β : Blocks) (K : En → Heap → Option α), (∀ b, F0 b → F b) → (∀ x ∈ hidOf R bs ops l, x < nb → ∀ u, β0 x = some u → β x = some u) → (∀ p ∈ l, plainAlloc p.2 = false → p.1 ∈ ds) → rwpH P L M D ks nb base n ops R bs l E H K = some z → okG w F L → Inv nb w F β H → okE nb w F β a.tmps E → a.tmps.size = n →
    (∀ (a' : Act) (w' : World) (F' : Nat → Prop) (β' : Blocks) (E' : En) (H' : Heap), a'.tmps.size = n → a'.defers = a.defers → okG w' F' L → Inv nb w' F' β' H' → okE nb w' F' β' a'.tmps E' → Run (lowK base ks) w F β H w' F' β' H' → K E' H' = some z → Q .normal a' w') → wpCT P ops Q (fun k => Sees w0 F0 β0 (hOf R bs H0 k)) (kpD ops ds bs) l a w := by
  intro l
  induction l with
  | nil =>
    intro E H a w F β K _ _ _ h hL hI hE hn hQ w' hw
    have hs := fun ok => step_cls (β := β) ok hI.lt hw
    exact hQ a w' F β E H hn rfl (hL.step (hs (fun _ => true))) (hI.cls hw) (step_all hE (hs _)) ⟨hs _, fun b hb _ => hw.block b hb, fun o l u b h1 h2 h3 _ => ⟨o, l, u, h1, h2, h3⟩, fun _ h _ => .inl h⟩ h
  | cons p r ih =>
    obtain ⟨k, o⟩ := p
    intro E H a w00 F β K hF hβ hds h hL00 hI00 hE00 hn hQ00 w hw00
    have hs := fun ok => step_cls (β := β) ok hI00.lt hw00
    unfold rwpH at h
    have hL := hL00.step (hs (fun _ => true))
    have hI := hI00.cls hw00
    have hE := step_all hE00 (hs _)
    have hR0 : Run (lowK base ks) w00 F β H w F β H := ⟨hs _, fun b hb _ => hw00.block b hb, fun o l u b h1 h2 h3 _ => ⟨o, l, u, h1, h2, h3⟩, fun _ h _ => .inl h⟩
    clear hI00 hE00 hL00 hs
    have hds' : ∀ p ∈ r, plainAlloc p.2 = false → p.1 ∈ ds := fun p hp => hds p (List.mem_cons_of_mem _ hp)
    have hput : ∀ (u : Value), (a.put o.dst u).tmps.size = n := fun u => by cases hd : o.dst <;> simp [Act.put, hn]
    have hdef : ∀ (u : Value), (a.put o.dst u).defers = a.defers := fun u => by cases hd : o.dst <;> rfl
    have go : ∀ (u : Value) (w' : World) (F' : Nat → Prop) (β' : Blocks) (E' : En) (H' : Heap), okG w' F' L → Inv nb w' F' β' H' → okE nb w' F' β' (a.put o.dst u).tmps E' → Run (lowK base ks) w F β H w' F' β' H' → (∀ x ∈ hidOf R bs ops ((k, o) :: r), x < nb → ∀ u, β x = some u → β' x = some u) → rwpH P L M D ks nb base n ops R bs r E' H' K = some z → wpCT P ops Q (fun k => Sees w0 F0 β0 (hOf R bs H0 k)) (kpD ops ds bs) r (a.put o.dst u) w' := fun u w' F' β' E' H' q1 q2 q3 q4 q5 q6 => by
      refine ih E' H' _ w' F' β' K (fun b hb => (q4.step.read b (hF b hb)).1) (fun x hx hlt u hu => q5 x (hid_mono hx) hlt u (hβ x (hid_mono hx) hlt u hu)) hds' q6 q1 q2 q3 (hput u) (fun a' w'' F'' β'' E'' H'' p1 p2 p3 p4 p5 p6 p7 => hQ00 a' w'' F'' β'' E'' H'' p1 (p2.trans (hdef u)) p3 p4 p5 ((hR0.trans q4).trans p6) p7)
    have keep : ∀ (w' : World) (F' : Nat → Prop) (β' : Blocks) (H' : Heap), Run (lowK base ks) w F β H w' F' β' H' → (∀ x ∈ hidOf R bs ops ((k, o) :: r), x < nb → ∀ u b, β x = some u → Blk u b → w'.heap[b]? = w.heap[b]?) → (plainAlloc o = true → Cls w w') → ∀ i, kpD ops ds bs k i = true → Sees w0 F0 β0 (hOf R bs H0 i) w → Sees w0 F0 β0 (hOf R bs H0 i) w' := fun w' F' β' H' q1 q2 q3 i hk hS => by
      by_cases hal : plainAlloc o = true
      · exact Sees.clsH (hI0.sub (fun x hx => hOf_sub hx)) hS (q3 hal)
      · have hkd : k ∈ ds := hds (k, o) (List.mem_cons_self ..) (by simpa using hal)
        unfold kpD at hk
        rw [Bool.or_eq_true] at hk
        rcases hk with hk | hk
        · simp [hkd] at hk
        · rw [Bool.and_eq_true] at hk
          obtain ⟨k1, k2⟩ := hk
          refine ⟨q1.step.os.trans hS.os, q1.step.tape.trans hS.tape, q1.step.output.trans hS.output, Nat.le_trans hS.size q1.step.size, fun b hb => ?_⟩
          refine Eq.trans ?_ (hS.block b hb)
          rcases hb with hb | ⟨x, l, u, m1, m2, m3⟩
          · exact (q1.step.read b (hF b hb)).2
          · have hxH : (x, l) ∈ H0 := hOf_sub m1
            have hxR : x ∈ R i := by
              unfold hOf at m1
              rw [k1] at m1
              simpa using (List.mem_filter.1 m1).2
            have hx : x ∈ hidOf R bs ops ((k, o) :: r) := List.mem_flatMap.2 ⟨i, by simpa using k1, by
              rw [if_pos (by rw [List.any_cons, k2, Bool.true_or])]; exact hxR⟩
            have hlt := (hI0.obj x l hxH).1
            exact q2 x hx hlt u b (hβ x hx hlt u m2) m3
    have key := stepH_ok (Q := Q) (Kc := fun a' w' => (Region.wanted o (yielded ops a.tmps) = true → ∀ i, kpD ops ds bs k i = true → Sees w0 F0 β0 (hOf R bs H0 i) w → Sees w0 F0 β0 (hOf R bs H0 i) w') ∧ wpCT P ops Q (fun k => Sees w0 F0 β0 (hOf R bs H0 k)) (kpD ops ds bs) r a' w') hM hnb h hL hI hE hn (fun u w' F' β' E' H' q1 q2 q3 q4 q5 q6 q7 _ q8 => ⟨fun _ => keep w' F' β' H' q4 q6 q7, go u w' F' β' E' H' q1 q2 q3 q4 q5 q8⟩)
    split
    · rename_i hw
      rw [if_pos hw] at key
      exact Oper.wp_mono (fun a2 w2 h3 => ⟨h3.1 hw, h3.2⟩) key
    · rename_i hw
      rw [if_neg hw] at key
      exact key.2
theorem trimE_ok {T : Array Value} {E E' : En} (h : okE nb w F β T E') : okE nb w F β T (trimE E E') := fun x hx => by
  obtain ⟨y, hy, h2⟩ := List.mem_filterMap.1 hx
  split at h2
  · rename_i v hf
    obtain rfl := Option.some.inj h2
    exact h _ (find_mem hf)
  · cases h2
/-- While new variables are made in any order: those of as are still to be made. -/
def AJ (P : Program) (L : Globs) (ks : List Nat) (nb base n : Nat) (w : World) (F : Nat → Prop) (β : Blocks) (H : Heap) (a0 : Act) (al : List (Nat × Nat × TypeId)) (E0 : En) (H0 : Heap) (as : List Nat) (a : Act) (w' : World) : Prop := ∃ β', okG w' F L ∧ Inv nb w' F β' ((al.filter fun q => !as.contains q.1).map (boxA P base) ++ H0) ∧ okE nb w' F β' a.tmps ((al.filter fun q => !as.contains q.1).map (slotA base) ++ E0) ∧ a.tmps.size = n ∧ a.defers = a0.defers ∧ Run (lowK base ks) w F β H w' F β' ((al.filter fun q => !as.contains q.1).map (boxA P base) ++ H0) ∧ (∀ i ∈ as, ∃ q ∈ al, q.1 = i) ∧ ∀ x, nmA base al x = false → ∀ u, β x = some u → β' x = some u
theorem aj_step {ops : Array Oper} {Q : Exit → Act → World → Prop} {al : List (Nat × Nat × TypeId)} {E00 : En} {H00 : Heap} (hok : okA P nb base n al H00 = true) (hal : ∀ q ∈ al, ∃ o, ops[q.1]? = some o ∧ alOf o = some q.2) {as : List Nat} {i : Nat} (hi : i ∈ as) {wS : World} {βS : Blocks} {HS : Heap} {a0 : Act} {w1 : World} (hJ : AJ P L ks nb base n wS F βS HS a0 al (preE base al E00) (preH base al H00) as a w1) (w' : World) (hw : Cl0 w1 w') :
    tOp P ops Q i (fun a' w'' => Cl0 w' w'' ∧ AJ P L ks nb base n wS F βS HS a0 al (preE base al E00) (preH base al H00) (as.filter (· != i)) a' w'') a w' := by
  obtain ⟨β', hL, hI, hE, hn, hd, hR, has, hown⟩ := hJ
  have hs := fun ok => step_cls (β := β') ok hI.lt hw
  have hR' := hR.trans (Run.mk (hs _) (fun b hb _ => hw.block b hb) (fun o l u b h1 h2 h3 _ => ⟨o, l, u, h1, h2, h3⟩) (fun _ h _ => .inl h))
  have hL' := hL.step (hs (fun _ => true))
  have hI' := hI.cls hw
  have hE' := step_all hE (hs _)
  clear hL hI hE hR hs
  obtain ⟨q, hq, rfl⟩ := has i hi
  obtain ⟨o, ho, hao⟩ := hal q hq
  obtain ⟨k, d, t⟩ := q
  obtain ⟨dst, op, ty, pos, after, guard⟩ := o
  unfold alOf at hao
  split at hao
  case h_2 => cases hao
  rename_i d' t' e1 e2 e3
  simp only at e1 e2 e3
  subst e1 e2 e3
  obtain ⟨rfl, rfl⟩ := Prod.mk.inj (Option.some.inj hao)
  simp only [okA, Bool.and_eq_true] at hok
  obtain ⟨hk1, hk2, hk3⟩ := hok
  have hq1 := List.all_eq_true.1 hk1 _ hq
  simp only [Bool.and_eq_true, decide_eq_true_eq] at hq1
  obtain ⟨hdn, hlt, hzz⟩ := hq1
  have hdist : ∀ q' ∈ al, q' ≠ (k, d', t') → q'.1 ≠ k ∧ q'.2.1 ≠ d' := fun q' hq' hne => by
    have := List.all_eq_true.1 (List.all_eq_true.1 hk3 q' hq') _ hq
    simp only [Bool.or_eq_true, beq_iff_eq, Bool.and_eq_true, bne_iff_ne, ne_eq] at this
    exact this.resolve_left hne
  have hzp : ∀ q' ∈ al, ∀ ok, obOk ok (boxA P base q').2 = true := fun q' hq' ok => by
    have h1 := List.all_eq_true.1 hk1 q' hq'
    simp only [Bool.and_eq_true] at h1
    have h2 := h1.2.2
    unfold boxA
    split at h2
    · rename_i z hz
      rw [hz]
      exact List.all_eq_true.2 (fun s hs => okS_noPtr (List.all_eq_true.1 h2 s hs) _)
    · cases h2
  split at hzz
  case h_2 => cases hzz
  rename_i z hz
  obtain ⟨ii, zv, h7, h8, h9, h10⟩ := zero_ok (nb := nb) (w := w') (F := F) (β := β') hz
  have hnm : ∀ y, nmA base al y = false → y ≠ base + d' := fun y hy e => by
    have : nmA base al y = true := List.any_eq_true.2 ⟨_, hq, by simp [e]⟩
    rw [hy] at this; cases this
  generalize hHex : (al.filter fun q => !as.contains q.1).map (boxA P base) ++ preH base al H00 = Hex at *
  have hH : newH Hex (base + d') (.box z) = some ((base + d', .box z) :: Hex.filter (fun x => x.1 != base + d')) := by
    unfold newH
    rw [if_pos]
    rw [Bool.and_eq_true]
    refine ⟨List.all_eq_true.2 (fun s hs => okS_noPtr (List.all_eq_true.1 hzz s hs) _), List.all_eq_true.2 (fun x hx => ?_)⟩
    rw [Bool.or_eq_true]
    right
    rw [← hHex] at hx
    rcases List.mem_append.1 hx with hx | hx
    · obtain ⟨q', hq', rfl⟩ := List.mem_map.1 hx
      exact hzp q' (List.mem_filter.1 hq').1 _
    · have h1 := List.all_eq_true.1 hk2 x hx
      exact obOk_imp (fun y hy => by have := hnm y (by simpa using hy); simpa using this) h1
  obtain ⟨h11, h12⟩ := new_box hI' hlt h10 t' h9 hH
  have hrun : (execOp a.eval ⟨some d', .alloc t', ty, pos, after, none⟩).run P w' = .ok (.value (.pointer (some ⟨w'.heap.size, 0, none⟩))) { w' with heap := w'.heap.push (.cells zv.cells t') } := by
    simp [execOp, Instr.alloc, zeroValue, typeInfo, h7, h8, newVar, newRow, newObj, Sem.run]
  have hmore : ∀ q' ∈ al, (!(as.filter (· != k)).contains q'.1) = true → q' ≠ (k, d', t') → q' ∈ al.filter fun q => !as.contains q.1 := fun q' hq' hc hne => by
    refine List.mem_filter.2 ⟨hq', ?_⟩
    have hk' := (hdist q' hq' hne).1
    simp only [Bool.not_eq_true', List.contains_eq_mem, decide_eq_false_iff_not] at hc ⊢
    exact fun hm => hc (List.mem_filter.2 ⟨hm, by simpa using hk'⟩)
  have hsub : ∀ x, x ∈ (al.filter fun q => !(as.filter (· != k)).contains q.1).map (boxA P base) ++ preH base al H00 → x ∈ (base + d', OB.box z) :: Hex.filter (fun x => x.1 != base + d') := fun x hx => by
    rcases List.mem_append.1 hx with hx | hx
    · obtain ⟨q', hq', rfl⟩ := List.mem_map.1 hx
      obtain ⟨hq1, hq2⟩ := List.mem_filter.1 hq'
      by_cases e : q' = (k, d', t')
      · subst e
        unfold boxA
        rw [hz]
        exact List.mem_cons_self ..
      · refine List.mem_cons_of_mem _ (List.mem_filter.2 ⟨?_, ?_⟩)
        · rw [← hHex]
          exact List.mem_append_left _ (List.mem_map.2 ⟨q', hmore q' hq1 hq2 e, rfl⟩)
        · have := (hdist q' hq1 e).2
          simp only [boxA, bne_iff_ne, ne_eq]
          omega
    · refine List.mem_cons_of_mem _ (List.mem_filter.2 ⟨?_, ?_⟩)
      · rw [← hHex]
        exact List.mem_append_right _ hx
      · have := hnm _ (by simpa using (List.mem_filter.1 hx).2)
        simpa using this
  have hE2 := drop_ok (d := d') (v := .pointer (some ⟨w'.heap.size, 0, none⟩)) (step_ok hE' h12.step)
  have hokE : okE nb { w' with heap := w'.heap.push (.cells zv.cells t') } F (putB β' (base + d') (.pointer (some ⟨w'.heap.size, 0, none⟩))) (a.tmps.setIfInBounds d' (.pointer (some ⟨w'.heap.size, 0, none⟩))) ((al.filter fun q => !(as.filter (· != k)).contains q.1).map (slotA base) ++ preE base al E00) := fun x hx => by
    rcases List.mem_append.1 hx with hx | hx
    · obtain ⟨q', hq', rfl⟩ := List.mem_map.1 hx
      obtain ⟨hq1, hq2⟩ := List.mem_filter.1 hq'
      by_cases e : q' = (k, d', t')
      · subst e
        refine ⟨by simp [slotA, hn]; exact hdn, ?_⟩
        show RN _ _ _ _ (.one (.ptr (base + d') 0)) ((a.tmps.setIfInBounds d' (.pointer (some ⟨w'.heap.size, 0, none⟩))).getD d' undef)
        rw [show (a.tmps.setIfInBounds d' (.pointer (some ⟨w'.heap.size, 0, none⟩))).getD d' undef = .pointer (some ⟨w'.heap.size, 0, none⟩) from by simp [Array.getD_eq_getD_getElem?, hn, hdn]]
        exact ⟨⟨_, putB_same _ _ _, rfl⟩, by simpa [okV, okS] using hlt⟩
      · have hd' := (hdist q' hq1 e).2
        refine hE2 _ (List.mem_filter.2 ⟨List.mem_filter.2 ⟨List.mem_append_left _ (List.mem_map.2 ⟨q', hmore q' hq1 hq2 e, rfl⟩), ?_⟩, ?_⟩)
        · simp only [slotA, okV, okS, bne_iff_ne, ne_eq]
          omega
        · simp [slotA, hd']
    · obtain ⟨_, hx2⟩ := List.mem_filter.1 hx
      rw [Bool.and_eq_true] at hx2
      have hx3 := List.all_eq_true.1 hx2.1 _ hq
      refine hE2 _ (List.mem_filter.2 ⟨List.mem_filter.2 ⟨List.mem_append_right _ hx, ?_⟩, hx3⟩)
      exact okV_imp (fun y hy => by have := hnm y (by simpa using hy); simpa using this) hx2.2
  unfold tOp
  simp only [ho]
  rw [if_pos (by simp [Region.wanted])]
  unfold Oper.wp
  rw [hrun, Oper.upon_value]
  refine ⟨push_cls w' _, _, hL'.step h12.step, h11.sub hsub, hokE, by simp [Act.put, hn], hd, (hR'.trans (h12.weaken (fun x hx => ?_))).sub hsub, fun j hj => has j (List.mem_filter.1 hj).1, fun x hx u hu => h12.step.own x u (by simpa using hnm x hx) (hown x hx u hu)⟩
  have hx' : x < base := low_lt hx
  have hne : x ≠ base + d' := by omega
  simpa using hne
/-- What is asked of a piece of code. -/
def CodeOk (P : Program) (L : Globs) (ks : List Nat) (nb base n : Nat) (z : α) (c : Code) (ev : En → Heap → (Exit → En → Heap → Option α) → Option α) : Prop := ∀ {Q : Exit → Act → World → Prop} (E : En) (H : Heap) (a : Act) (w : World) (F : Nat → Prop) (β : Blocks) (K : Exit → En → Heap → Option α), ev E H K = some z → okG w F L → Inv nb w F β H → okE nb w F β a.tmps E → a.tmps.size = n →
  (∀ (e : Exit) (a' : Act) (w' : World) (F' : Nat → Prop) (β' : Blocks) (E' : En) (H' : Heap), a'.tmps.size = n → a'.defers = a.defers → okG w' F' L → Inv nb w' F' β' H' → okE nb w' F' β' a'.tmps E' → Run (lowK base ks) w F β H w' F' β' H' → K e E' H' = some z → Q e a' w') → c.wp P Q a w
theorem rounds_ok {c : Code} {ev : En → Heap → (Exit → En → Heap → Option α) → Option α} (hc : CodeOk P L ks nb base n z c ev) {Q : Exit → Act → World → Prop} {K : Exit → En → Heap → Option α} : ∀ (m : Nat) (E : En) (H : Heap) (a : Act) (w : World) (F : Nat → Prop) (β : Blocks), rounds ev K m E H = some z → okG w F L → Inv nb w F β H → okE nb w F β a.tmps E → a.tmps.size = n →
    (∀ (e : Exit) (a' : Act) (w' : World) (F' : Nat → Prop) (β' : Blocks) (E' : En) (H' : Heap), a'.tmps.size = n → a'.defers = a.defers → okG w' F' L → Inv nb w' F' β' H' → okE nb w' F' β' a'.tmps E' → Run (lowK base ks) w F β H w' F' β' H' → K e E' H' = some z → Q e a' w') → Code.rounds P c Q m a w := by
  intro m
  induction m with
  | zero => intro E H a w F β h; cases h
  | succ m ih =>
    intro E H a w F β h hL hI hE hn hQ
    rw [rounds_succ]
    unfold rounds at h
    refine hc E H a w F β _ h hL hI hE hn (fun e a' w' F' β' E' H' h1 h2 h3 h4 h5 h6 h7 => ?_)
    cases e with
    | normal =>
      have hsub : ∀ x, x ∈ trimH H H' (trimE E E') → x ∈ H' := fun x hx => (List.mem_filter.1 hx).1
      exact ih (trimE E E') (trimH H H' (trimE E E')) a' w' F' β' h7 h3 (h4.sub hsub) (trimE_ok h5) h1 (fun e2 a2 w2 F2 β2 E2 H2 q1 q2 q3 q4 q5 q6 q7 => hQ e2 a2 w2 F2 β2 E2 H2 q1 (q2.trans h2) q3 q4 q5 ((h6.sub hsub).trans q6) q7)
    | _ => exact hQ _ a' w' F' β' E' H' h1 h2 h3 h4 h5 h6 h7
theorem dropC_ok {c : Operand} {T : Array Value} (h : okE nb w F β T E) : okE nb w F β T (dropC c E) := by
  cases c <;> first | exact h | exact fun x hx => h x (List.mem_filter.1 hx).1
theorem keepT_ok {kp : Nat → Bool} {T : Array Value} (h : okE nb w F β T E) : okE nb w F β T (keepT kp E) := fun x hx => h x (List.mem_filter.1 hx).1
theorem cwp_ok (hM : Sound P L M) (hm : P.follows .mixedOrders = true) (hnb : base ≤ nb) (kp : Nat → Bool) (fl : Nat) : ∀ (c : Code), CodeOk P L ks nb base n z c (fun E H K => cwp P L M D kp ks nb base n fl c E H K) := by
  intro c
  induction c with
  | region id ops draw =>
    intro Q E H a w F β K h hL hI hE hn hQ
    cases draw with
    | true =>
      unfold cwp at h
      try dsimp only at h
      split at h
      · rename_i hB
        obtain ⟨F1, β1, E1, H1, h, hL1, hI1, hE1, hR⟩ := frzN_ok _ E H F β _ h hL hI hE
        have hw0 : Cls w { w with drawn := w.drawn + 1 } := ⟨rfl, rfl, rfl, Nat.le_refl _, fun _ _ => rfl⟩
        have hs := fun ok => step_cls (β := β1) ok hI1.lt hw0
        have hI2 := hI1.cls hw0
        split at h
        case isFalse => cases h
        rename_i hcl
        have hI2f := fun k => hI2.sub (H := hOf (rdOf E1 H1 ops) (bsOf D ops) H1 k) (fun x hx => hOf_sub hx)
        refine wp_region_draws (S := fun k => Sees { w with drawn := w.drawn + 1 } F1 β1 (hOf (rdOf E1 H1 ops) (bsOf D ops) H1 k)) hm (fun k _ _ q c => Sees.clsH (hI2f k) q c) (fun _ => Sees.refl) hB (qwp_ok hM (hL1.step (hs (fun _ => true))) (Hf := hOf (rdOf E1 H1 ops) (bsOf D ops) H1) hI2f (fun _ _ h => h) _ E1 a _ h (step_all hE1 (hs _)) hn (fun a' E' h1 h2 h3 h4 => ?_))
        have fin : ∀ (E2 : En) (H2 : Heap) (a3 : Act) (w3 : World) (β3 : Blocks), rwpH P L M D ks nb base n ops (rdOf E1 H1 ops) (bsOf D ops) (pairsOf ops (crOf D ops)) E2 H2 (fun E'' H'' => K .normal (keepT kp E'') H'') = some z → okG w3 F1 L → Inv nb w3 F1 β3 H2 → okE nb w3 F1 β3 a3.tmps E2 → a3.tmps.size = n → a3.defers = a.defers → Run (lowK base ks) { w with drawn := w.drawn + 1 } F1 β1 H1 w3 F1 β3 H2 → (∀ x, nmA base (alL ops (asOf D ops)) x = false → ∀ u, β1 x = some u → β3 x = some u) → wpCT P ops (NoPanic Q) (fun k => Sees { w with drawn := w.drawn + 1 } F1 β1 (hOf (rdOf E1 H1 ops) (bsOf D ops) H1 k)) (kpD ops (dsOf D ops) (bsOf D ops)) (pairsOf ops (crOf D ops)) a3 w3 := fun E2 H2 a3 w3 β3 g0 g1 g2 g3 g4 g5 g6 g7 => by
          refine rwpT_ok hM hnb hI2 _ E2 H2 a3 w3 F1 β3 _ (fun _ h => h) (fun x hx _ u hu => g7 x (by simpa using List.all_eq_true.1 hcl x hx) u hu) (fun p hp hal => ?_) g0 g1 g2 g3 g4 (fun a2 w2 F2 β2 E2 H2 q1 q2 q3 q4 q5 q6 q7 => ?_)
          · unfold dsOf
            have ho := pairs_mem hp
            obtain ⟨k, hk, h2⟩ := List.mem_filterMap.1 hp
            obtain ⟨o, h3, rfl⟩ := Option.map_eq_some_iff.1 h2
            refine List.mem_filter.2 ⟨(List.mem_filter.1 hk).1, ?_⟩
            simp only [h3]
            simp [show plainAlloc o = false from hal]
          · exact hQ .normal a2 w2 F2 β2 (keepT kp E2) H2 q1 (q2.trans g5) q3 q4 (keepT_ok q5) (((hR.trans ⟨hs _, fun b hb _ => hw0.block b hb, fun o l u b h1 h2 h3 _ => ⟨o, l, u, h1, h2, h3⟩, fun _ h _ => .inl h⟩).trans g6).trans q6) q7
        have hL2 := hL1.step (hs (fun _ => true))
        unfold awp at h4
        split at h4
        · rename_i has
          refine wpT_late (J := fun as a3 w3 => as = [] ∧ a3 = a' ∧ w3 = { w with drawn := w.drawn + 1 }) hB (fun as i a3 w3 hi hJ => ?_) (fun a3 w3 hJ => ?_) ⟨has, rfl, rfl⟩
          · rw [hJ.1] at hi; cases hi
          · obtain ⟨_, rfl, rfl⟩ := hJ
            exact fin E' H1 a3 _ β1 h4 hL2 hI2 h3 h1 h2 (Run.refl _ _ _ _ _) (fun _ _ _ h => h)
        · rename_i as' has
          split at h4
          case isFalse => cases h4
          rename_i hc
          rw [Bool.and_eq_true, beq_iff_eq] at hc
          obtain ⟨hc1, hc2⟩ := hc
          have hal : ∀ q ∈ alL ops (asOf D ops), ∃ o, ops[q.1]? = some o ∧ alOf o = some q.2 := fun q hq => by
            obtain ⟨k, _, h5⟩ := List.mem_filterMap.1 hq
            obtain ⟨x, h6, rfl⟩ := Option.map_eq_some_iff.1 h5
            obtain ⟨o, h7, h8⟩ := Option.bind_eq_some_iff.1 h6
            exact ⟨o, h7, h8⟩
          refine wpT_late (J := fun as a3 w3 => AJ P L ks nb base n { w with drawn := w.drawn + 1 } F1 β1 H1 a (alL ops (asOf D ops)) (preE base (alL ops (asOf D ops)) E') (preH base (alL ops (asOf D ops)) H1) as a3 w3) hB (fun as i a3 w3 hi hJ w4 hw4 => ?_) (fun a3 w3 hJ => ?_) ?_
          · exact tOp_mono (fun a5 w5 h => ⟨fun k _ g => Sees.clsH (hI2f k) g h.1, h.2⟩) (aj_step hc2 hal hi hJ w4 hw4)
          · obtain ⟨β3, g1, g2, g3, g4, g5, g6, _, g7⟩ := hJ
            have e : (alL ops (asOf D ops)).filter (fun q => !([] : List Nat).contains q.1) = alL ops (asOf D ops) := List.filter_eq_self.2 (fun _ _ => rfl)
            rw [e] at g2 g3 g6
            exact fin _ _ a3 w3 β3 h4 g1 g2 g3 g4 g5 g6 g7
          · have e : (alL ops (asOf D ops)).filter (fun q => !(asOf D ops).contains q.1) = [] := List.filter_eq_nil_iff.2 (fun q hq => by
              have : q.1 ∈ (alL ops (asOf D ops)).map (·.1) := List.mem_map.2 ⟨q, hq, rfl⟩
              rw [hc1] at this
              simp [this])
            refine ⟨β1, hL2, ?_, ?_, h1, h2, ?_, fun i hi => ?_, fun _ _ _ h => h⟩
            · rw [e]; exact hI2.sub (fun x hx => (List.mem_filter.1 hx).1)
            · rw [e]; exact fun x hx => h3 x (List.mem_filter.1 hx).1
            · rw [e]; exact (Run.refl _ _ _ _ _).sub (fun x hx => (List.mem_filter.1 hx).1)
            · rw [← hc1] at hi
              obtain ⟨q, hq, rfl⟩ := List.mem_map.1 hi
              exact ⟨q, hq, rfl⟩
      · cases h
    | false =>
      unfold cwp at h
      try dsimp only at h
      exact wp_region_list (rwp_ok hM hnb _ E H a w F β _ h hL hI hE hn (fun a' w' F' β' E' H' h1 h2 h3 h4 h5 h6 h7 => hQ _ a' w' F' β' (keepT kp E') H' h1 h2 h3 h4 (keepT_ok h5) h6 h7))
  | cond c x y ihx ihy =>
    intro Q E H a w F β K h hL hI hE hn hQ
    unfold cwp at h
    try dsimp only at h
    split at h
    · rename_i b hb
      refine wp_cond_split (t := b) (RV_bool (opnd_ok hL hE (fun g hg => by cases hg) hb).1) (fun e => ?_) (fun e => ?_)
      · rw [if_pos e] at h; exact ihx (dropC c E) H a w F β K h hL hI (dropC_ok hE) hn hQ
      · rw [if_neg (by rw [e]; decide)] at h; exact ihy (dropC c E) H a w F β K h hL hI (dropC_ok hE) hn hQ
    · cases h
  | seq x y ihx ihy =>
    intro Q E H a w F β K h hL hI hE hn hQ
    unfold cwp at h
    try dsimp only at h
    refine wp_seq (ihx E H a w F β _ h hL hI hE hn (fun e a' w' F' β' E' H' h1 h2 h3 h4 h5 h6 h7 => ?_))
    cases e with
    | normal => exact ihy E' H' a' w' F' β' K h7 h3 h4 h5 h1 (fun e2 a2 w2 F2 β2 E2 H2 q1 q2 q3 q4 q5 q6 q7 => hQ e2 a2 w2 F2 β2 E2 H2 q1 (q2.trans h2) q3 q4 q5 (h6.trans q6) q7)
    | _ => exact hQ _ a' w' F' β' E' H' h1 h2 h3 h4 h5 h6 h7
  | block id c ih =>
    intro Q E H a w F β K h hL hI hE hn hQ
    unfold cwp at h
    try dsimp only at h
    refine wp_block (ih E H a w F β _ h hL hI hE hn (fun e a' w' F' β' E' H' h1 h2 h3 h4 h5 h6 h7 => ?_))
    cases e with
    | exit i =>
      simp only [Exit.inBlock]
      simp only at h7
      split at h7
      · rename_i hi; rw [if_pos hi]; exact hQ _ a' w' F' β' E' H' h1 h2 h3 h4 h5 h6 h7
      · rename_i hi; rw [if_neg hi]; exact hQ _ a' w' F' β' E' H' h1 h2 h3 h4 h5 h6 h7
    | _ => exact hQ _ a' w' F' β' E' H' h1 h2 h3 h4 h5 h6 h7
  | loop c ih =>
    intro Q E H a w F β K h hL hI hE hn hQ
    unfold cwp at h
    try dsimp only at h
    exact wp_loop_rounds fl (rounds_ok ih fl E H a w F β h hL hI hE hn hQ)
  | skip => intro Q E H a w F β K h hL hI hE hn hQ; exact wp_skip (hQ _ a w F β E H hn rfl hL hI hE (Run.refl _ _ _ _ _) h)
  | ret => intro Q E H a w F β K h hL hI hE hn hQ; exact wp_ret (hQ _ a w F β E H hn rfl hL hI hE (Run.refl _ _ _ _ _) h)
  | exit id => intro Q E H a w F β K h hL hI hE hn hQ; exact wp_exit (hQ _ a w F β E H hn rfl hL hI hE (Run.refl _ _ _ _ _) h)
  | _ => intro Q E H a w F β K h; first | (unfold cwp at h; cases h) | cases h
theorem Inv.up (h : Inv base w F β H) (hb : base ≤ nb) : Inv nb w F β H := ⟨h.uniq, fun o l hm => by
  obtain ⟨h1, h2⟩ := h.obj o l hm
  refine ⟨Nat.lt_of_lt_of_le h1 hb, ?_⟩
  cases l with
  | box l => exact ⟨List.all_eq_true.2 (fun s hs => okS_imp (fun x hx => by simp at hx ⊢; omega) (List.all_eq_true.1 h2.1 s hs)), h2.2⟩
  | out t n b hole => exact ⟨Nat.lt_of_lt_of_le h2.1 hb, h2.2⟩
  | rows t e n row => exact h2
  | mp ki vi val => exact h2
  | inn _ _ _ _ _ _ => exact h2
  | dead => exact h2, h.apart, h.inj, h.lt, h.ltβ⟩
theorem loadVar_at {t : TypeId} {ad : Addr} : (loadVar t ad).run P w = (Instr.loadAt t (.pointer (some ad))).run P w := by simp [Instr.loadAt, Instr.sureAddr]
def resF (T : Array Value) : ResultVar → Sem Value
  | .tmp t => pure (T.getD t undef)
  | .cell x t => do loadVar t (← asAddr (T.getD x undef))
theorem res1_ok (hI : Inv nb w F β H) (hE : okE nb w F β a.tmps E) {r : ResultVar} {v : PV} (h : res1 P E H r = some v) : ∃ u, (resF a.tmps r).run P w = .ok u w ∧ RN nb w F β v u ∧ ∀ l, v ≠ .tup l := by
  cases r with
  | tmp t =>
    unfold res1 at h
    try dsimp only at h
    split at h
    · cases h
    · rename_i hn
      refine ⟨a.tmps.getD t undef, rfl, look_ok hE (fun g hg => by cases hg) h, fun l e => hn l ?_⟩
      rw [h, e]
  | cell x t =>
    unfold res1 at h
    try dsimp only at h
    split at h
    · rename_i o hx
      obtain ⟨b, hb, hxv⟩ := RV_ptr (look_ok hE (fun g hg => by cases hg) hx).1
      have hrun : (resF a.tmps (.cell x t)).run P w = (Instr.loadAt t (.pointer (some ⟨b, 0, none⟩))).run P w := by
        rw [← loadVar_at]
        simp [resF, hxv, asAddr]
      split at h
      · rename_i l hf hk
        split at h
        · rename_i s
          obtain rfl := Option.some.inj h
          obtain ⟨_, hn, b', c, t', hb', hh, hc⟩ := hI.obj o _ (findH_mem hf)
          obtain rfl := ptr_inj hb hb'
          obtain ⟨u, q1, q2⟩ := hc.get (i := 0) rfl
          obtain ⟨d, hd1, hd2⟩ := kindOf_some hk
          refine ⟨u, ?_, ⟨q2, by simpa [okV] using hn⟩, fun l e => by cases e⟩
          rw [hrun]
          have hcell : w.cell? ⟨b, 0, none⟩ = some u := by rw [cell_of_row w b 0 c t' (0, 0) hh]; simpa using q1
          have hagg : (isAgg t).run P w = .ok false w := by
            unfold isAgg
            rw [Sem.run_bind, run_underlying hd1 w]
            cases d <;> simp_all [TypeDesc.isRow]
          simp [Instr.loadAt, Instr.sureAddr, loadVar, Sem.run_bind, hagg, load, Sem.run, hcell]
        · cases h
      · rename_i l n hf hk hs
        split at h
        case isFalse => cases h
        rename_i hln
        obtain rfl := Option.some.inj h
        obtain ⟨_, hn, b', c, t', hb', hh, hc⟩ := hI.obj o _ (findH_mem hf)
        obtain rfl := ptr_inj hb hb'
        obtain ⟨d, hd1, hd2⟩ := kindOf_some hk
        refine ⟨.agg c, ?_, ⟨⟨c.toList, by simp, hc⟩, hn⟩, fun l e => by cases e⟩
        rw [hrun]
        have hl : c.toList.length = n := by rw [← hln]; exact hc.length.symm
        have hrange : w.rangeAt b 0 c.toList := fun j v hj => by
          rw [cell_of_row w b (0 + j) c t' (0, 0) hh, Nat.zero_add]; simpa using hj
        have := run_loadAt_mid w b 0 t c.toList d hrange hd1 hd2 (by rw [hl]; exact hs)
        simpa using this
      · cases h
    · cases h
theorem RV1_of {v : PV} {u : Value} (h : RV w F β v u) (hn : ∀ l, v ≠ .tup l) : RV1 w F β v u := by
  cases v <;> first | exact h | exact absurd rfl (hn _)
theorem okV1_of {ok : Nat → Bool} {v : PV} (h : okV ok v = true) (hn : ∀ l, v ≠ .tup l) : okV1 ok v = true := by
  cases v <;> first | exact h | exact absurd rfl (hn _)
theorem results_eq (fn : Func) (T : Array Value) : results fn T = (do let vs ← fn.results.mapM (resF T); pure (if h : vs.size = 1 then vs[0] else .tuple vs)) := rfl
theorem res_list (hI : Inv nb w F β H) (hE : okE nb w F β a.tmps E) : ∀ {rs : List ResultVar} {vs : List PV}, rs.mapM (res1 P E H) = some vs → ∃ us, (rs.mapM (resF a.tmps)).run P w = .ok us w ∧ us.length = rs.length ∧ All2 (RV1 w F β) vs us ∧ vs.all (okV1 fun y => decide (y < nb)) = true := by
  intro rs
  induction rs with
  | nil => intro vs h; simp at h; subst h; exact ⟨[], rfl, rfl, .nil, rfl⟩
  | cons r rs ih =>
    intro vs h
    simp only [List.mapM_cons, Option.bind_eq_bind, Option.bind_eq_some_iff, Option.pure_def, Option.some.injEq] at h
    obtain ⟨v, hv, vs', hvs, rfl⟩ := h
    obtain ⟨us, h1, h2, h3, h4⟩ := ih hvs
    obtain ⟨u, h0, h5, h6⟩ := res1_ok hI hE hv
    refine ⟨u :: us, ?_, by simp [h2], .cons (RV1_of h5.1 h6) h3, by rw [List.all_cons, h4, okV1_of h5.2 h6]; rfl⟩
    rw [List.mapM_cons]
    simp only [Sem.run_bind, h0, Sem.run_pure, Result.andThen_ok, h1]
theorem res_ok (hI : Inv nb w F β H) (hE : okE nb w F β a.tmps E) {fn : Func} {v : PV} (h : resOf P E H fn = some v) : ∃ u, (results fn a.tmps).run P w = .ok u w ∧ RN nb w F β v u := by
  unfold resOf at h
  split at h
  · rename_i r hr
    obtain ⟨u, h0, h5, h6⟩ := res1_ok hI hE h
    refine ⟨u, ?_, h5⟩
    rw [results_eq, hr, List.mapM_toArray]
    simp [h0]
  · rename_i rs hne hr
    obtain ⟨vs, h1, rfl⟩ := Option.map_eq_some_iff.1 h
    obtain ⟨us, h2, h3, h4, h5⟩ := res_list (P := P) hI hE h1
    refine ⟨.tuple us.toArray, ?_, ⟨us, rfl, h4⟩, h5⟩
    have hl : us.toArray.size ≠ 1 := by
      simp only [List.size_toArray, h3]
      intro e
      obtain ⟨r, hr1⟩ := List.length_eq_one_iff.1 e
      exact hne r hr1
    rw [results_eq, hr, List.mapM_toArray]
    simp only [Sem.run_bind, map_eq_pure_bind, h2, Result.andThen_ok, Sem.run_pure]
    rw [dif_neg hl]
/-- Behind a function's end. -/
def endFF (base : Nat) (x : Option Nat) (F : Nat → Prop) (β : Blocks) (H : Heap) : Nat → Prop := fun b => F b ∨ ∃ o l u, (o, l) ∈ H ∧ base ≤ o ∧ x ≠ some o ∧ β o = some u ∧ Blk u b
def endB (base : Nat) (x : Option Nat) (β : Blocks) : Blocks := fun o => if okX base x o = true then β o else none
variable {x : Option Nat}
theorem end_step (base : Nat) (x : Option Nat) (w : World) (F : Nat → Prop) (β : Blocks) (H : Heap) : Step (okX base x) w F β w (endFF base x F β H) (endB base x β) := ⟨rfl, rfl, rfl, Nat.le_refl _, fun b hb => ⟨.inl hb, rfl⟩, fun o u ho hu => by unfold endB; rw [if_pos ho]; exact hu⟩
theorem endB_some {o : Nat} {u : Value} (h : endB base x β o = some u) : okX base x o = true ∧ β o = some u := by
  unfold endB at h
  split at h
  · rename_i hlt; exact ⟨hlt, h⟩
  · cases h
theorem okX_lt {o : Nat} (h : o < base) : okX base x o = true := by unfold okX; simp [h]
/-- What stays: the objects below base, and the row x. -/
theorem low_ok (hI : Inv nb w F β H) {H' : Heap} (h : lowH base x H = some H') : (∀ X : Heap, (∀ p ∈ X, p ∈ H ∧ x = some p.1 ∧ obOk (okX base x) p.2 = true) → Inv nb w (endFF base x F β H) (endB base x β) (X ++ H')) ∧ ∀ p, p ∈ H' → p ∈ H ∧ p.1 < base ∧ obOk (okX base x) p.2 = true := by
  unfold lowH at h
  split at h
  case isFalse => cases h
  rename_i hc
  obtain rfl := Option.some.inj h
  have hs : ∀ p, p ∈ H.filter (fun x => decide (x.1 < base)) → p ∈ H ∧ p.1 < base ∧ obOk (okX base x) p.2 = true := fun p hp => ⟨(List.mem_filter.1 hp).1, by simpa using (List.mem_filter.1 hp).2, List.all_eq_true.1 hc p hp⟩
  refine ⟨fun X hX => ?_, hs⟩
  have hs2 : ∀ p, p ∈ X ++ H.filter (fun x => decide (x.1 < base)) → p ∈ H ∧ okX base x p.1 = true ∧ obOk (okX base x) p.2 = true := fun p hp => by
    rcases List.mem_append.1 hp with h1 | h1
    · obtain ⟨h2, h3, h4⟩ := hX p h1
      exact ⟨h2, by unfold okX; rw [h3]; simp, h4⟩
    · obtain ⟨h2, h3, h4⟩ := hs p h1
      exact ⟨h2, okX_lt h3, h4⟩
  refine ⟨fun o l l' h1 h2 => hI.uniq o l l' (hs2 _ h1).1 (hs2 _ h2).1, fun o l h1 => ?_, ?_, ?_, ?_, ?_⟩
  · obtain ⟨h2, h3, h4⟩ := hs2 _ h1
    obtain ⟨h5, h6⟩ := hI.obj o l h2
    have h7 := ob_move h6 (end_step base x w F β H) h4 (fun u hu => by unfold endB; rw [if_pos h3]; exact hu) (fun _ _ _ _ => rfl)
    exact ⟨h5, h7⟩
  · rintro o u b h1 h2 (h3 | ⟨o2, l, u2, h3, h4, h5, h6, h7⟩)
    · exact hI.apart o u b (endB_some h1).2 h2 h3
    · have h8 := hI.inj o o2 u u2 b (endB_some h1).2 h6 h2 h7
      subst h8
      have h9 := (endB_some h1).1
      unfold okX at h9
      simp only [Bool.or_eq_true, decide_eq_true_eq, beq_iff_eq] at h9
      rcases h9 with h9 | h9
      · omega
      · exact h5 h9
  · intro o o' u u' b h1 h2 h3 h4
    exact hI.inj o o' u u' b (endB_some h1).2 (endB_some h2).2 h3 h4
  · rintro b (h1 | ⟨o2, l, u2, h3, h4, h5, h6, h7⟩)
    · exact hI.lt b h1
    · exact hI.ltβ o2 u2 b h6 h7
  · intro o u b h1 h2
    exact hI.ltβ o u b (endB_some h1).2 h2
theorem frzK_ok (hI : Inv nb w F β H) : ∀ (m : Nat) {s : PS} {u : Value}, RS w F β s u → okS (okX base x) (frzK base x H m s) = true → RS w (endFF base x F β H) (endB base x β) (frzK base x H m s) u
  | 0, s, u, h, hk => RS.step (end_step base x w F β H) hk h
  | m + 1, s, u, h, hk => by
    have same : ∀ {s'}, s' = s → okS (okX base x) s' = true → RS w (endFF base x F β H) (endB base x β) s' u := fun {s'} e hk' => by
      subst e
      exact RS.step (end_step base x w F β H) hk' h
    have cut : ∀ {o : Nat}, ¬ (decide (o < base) || x == some o) = true → base ≤ o ∧ x ≠ some o := fun {o} hlt' => by
      simp only [Bool.or_eq_true, decide_eq_true_eq, beq_iff_eq] at hlt'
      exact ⟨Nat.not_lt.1 (fun q => hlt' (.inl q)), fun q => hlt' (.inr q)⟩
    have mono : ∀ {s v}, RF w F s v → RF w (endFF base x F β H) s v := fun h => h.mono (end_step base x w F β H).read
    unfold frzK at hk ⊢
    split at hk
    · rename_i o
      split at hk
      · rename_i hlt; rw [if_pos hlt]; exact same rfl hk
      · rename_i hlt'
        have hnb := cut hlt'
        rw [if_neg hlt']
        split at hk
        · rename_i t e n row hf
          have hO := (hI.obj o _ (findH_mem hf)).2
          obtain ⟨h1, _⟩ := RV_os (w := w) (F := F) h
          obtain ⟨A, c, rfl, hnc, h2⟩ := row_len hO h1
          by_cases h0 : 0 < n
          · obtain ⟨b, rfl⟩ := h2 h0
            have hc : ∀ i j, i < n → j < e → w.cell? ⟨b, 0 + (i * e + j), none⟩ = some ((w.cell? ⟨b, 0 + (i * e + j), none⟩).getD undef) ∧ RF w (endFF base x F β H) (row i j) ((w.cell? ⟨b, 0 + (i * e + j), none⟩).getD undef) := fun i j hi hj => by
              obtain ⟨v, h3, h4⟩ := row_cell hO h1 hi hj
              rw [Nat.zero_add, h3]
              exact ⟨rfl, mono h4⟩
            exact RF.view n e row b 0 c (fun i j => (w.cell? ⟨b, 0 + (i * e + j), none⟩).getD undef) h0 hnc (.inr ⟨o, _, _, findH_mem hf, hnb.1, hnb.2, h1, rfl⟩) (fun i j hi hj => (hc i j hi hj).1) (fun i j hi hj => (hc i j hi hj).2)
          · obtain rfl : n = 0 := by omega
            exact RF.view0 e row A c
        · rename_i t n b hf
          split at hk
          · rename_i hlt; rw [if_pos hlt]; exact same rfl hk
          rename_i hltb
          have hnbb := cut hltb
          rw [if_neg hltb]
          split at hk
          · rename_i t' e n' st len row hfb
            have hO := (hI.obj o _ (findH_mem hf)).2
            have hB := (hI.obj b _ (findH_mem hfb)).2
            obtain ⟨h1, _⟩ := RV_os (w := w) (F := F) h
            obtain ⟨A, c, rfl, hnc, h2⟩ := out_len hO h1
            by_cases h0 : 0 < n
            · obtain ⟨bo, rfl⟩ := h2 h0
              have inner : ∀ i v, RV w F β (.one (.fi b i)) v → RF w (endFF base x F β H) (.view (len i) e (row i)) v := fun i v hv => by
                obtain ⟨_, A', c', rfl, hnc', h3⟩ := fam_len hB hv
                by_cases h00 : 0 < len i
                · obtain ⟨bi, rfl⟩ := h3 (.inl h00)
                  obtain ⟨l, hb, hl, _⟩ := RV_fi hv
                  have hc : ∀ k j, k < len i → j < e → w.cell? ⟨bi, 0 + (k * e + j), none⟩ = some ((w.cell? ⟨bi, 0 + (k * e + j), none⟩).getD undef) ∧ RF w (endFF base x F β H) (row i k j) ((w.cell? ⟨bi, 0 + (k * e + j), none⟩).getD undef) := fun k j hk hj => by
                    obtain ⟨v, h4, h5⟩ := fam_cell hB hb hl hk hj
                    rw [Nat.zero_add, h4]
                    exact ⟨rfl, mono h5⟩
                  exact RF.view (len i) e (row i) bi 0 c' (fun k j => (w.cell? ⟨bi, 0 + (k * e + j), none⟩).getD undef) h00 hnc' (.inr ⟨b, _, _, findH_mem hfb, hnbb.1, hnbb.2, hb, Blk_tup hl rfl⟩) (fun k j hk hj => (hc k j hk hj).1) (fun k j hk hj => (hc k j hk hj).2)
                · have : len i = 0 := by omega
                  rw [this]
                  exact RF.view0 e (row i) A' c'
              have hc : ∀ i j, i < n → j < 1 → w.cell? ⟨bo, 0 + (i * 1 + j), none⟩ = some ((w.cell? ⟨bo, 0 + (i * 1 + j), none⟩).getD undef) ∧ RF w (endFF base x F β H) (.view (len i) e (row i)) ((w.cell? ⟨bo, 0 + (i * 1 + j), none⟩).getD undef) := fun i j hi hj => by
                obtain rfl : j = 0 := by omega
                obtain ⟨v, h4, h5⟩ := out_cell hO h1 hi rfl
                rw [Nat.zero_add, h4]
                exact ⟨rfl, inner i v h5.1⟩
              exact RF.view n 1 (fun i _ => .view (len i) e (row i)) bo 0 c (fun i j => (w.cell? ⟨bo, 0 + (i * 1 + j), none⟩).getD undef) h0 hnc (.inr ⟨o, _, _, findH_mem hf, hnb.1, hnb.2, h1, rfl⟩) (fun i j hi hj => (hc i j hi hj).1) (fun i j hi hj => (hc i j hi hj).2)
            · obtain rfl : n = 0 := by omega
              exact RF.view0 1 _ A c
          · exact same rfl hk
        · exact same rfl hk
    · rename_i o off
      split at hk
      · rename_i hlt; rw [if_pos hlt]; exact same rfl hk
      · rename_i hlt'
        have hnb := cut hlt'
        rw [if_neg hlt']
        split at hk
        · rename_i l hf
          split at hk
          · rename_i hall
            rw [if_pos hall]
            obtain ⟨b, hb, rfl⟩ := RV_ptr (w := w) (F := F) h
            obtain ⟨_, b', c, t, hb', hh, hc⟩ := (hI.obj o _ (findH_mem hf)).2
            obtain rfl := ptr_inj hb hb'
            have hc' : ∀ j, j < l.length → w.cell? ⟨b, 0 + j, none⟩ = some (c[j]?.getD undef) ∧ RF w (endFF base x F β H) ((l.map (frzK base x H m)).getD j .nilp) (c[j]?.getD undef) := fun j hj => by
              obtain ⟨v, h1, h2⟩ := hc.get (List.getElem?_eq_getElem hj)
              have h1' : c[j]? = some v := by simpa using h1
              have e1 : (l.map (frzK base x H m)).getD j .nilp = frzK base x H m l[j] := by simp [List.getD_eq_getElem?_getD, hj]
              have hn : noPtr (frzK base x H m l[j]) = true := List.all_eq_true.1 hall _ (List.mem_map.2 ⟨_, List.getElem_mem hj, rfl⟩)
              rw [cell_of_row w b (0 + j) c t (0, 0) hh, Nat.zero_add, h1', e1]
              exact ⟨rfl, (RS_of hn).1 (frzK_ok hI m h2 (okS_noPtr hn _))⟩
            have hF : endFF base x F β H b := .inr ⟨o, _, _, findH_mem hf, hnb.1, hnb.2, hb, rfl⟩
            have := RF.vp (w := w) (F := endFF base x F β H) l.length (fun j => (l.map (frzK base x H m)).getD j .nilp) b 0 off (fun j => c[j]?.getD undef) hF (fun j hj => (hc' j hj).1) (fun j hj => (hc' j hj).2)
            rw [Nat.zero_add] at this
            exact this
          · rename_i hall
            rw [if_neg hall]
            exact same rfl hk
        · exact same rfl hk
    · exact same rfl hk
theorem frzS_ok (hI : Inv nb w F β H) {s : PS} {u : Value} (h : RS w F β s u) (hk : okS (okX base x) (frzS base x H s) = true) : RS w (endFF base x F β H) (endB base x β) (frzS base x H s) u := frzK_ok hI 2 h hk
theorem all2_frz (hI : Inv nb w F β H) {l : List PS} {m : List Value} (h : All2 (RS w F β) l m) (hk : (l.map (frzS base x H)).all (okS (okX base x)) = true) : All2 (RS w (endFF base x F β H) (endB base x β)) (l.map (frzS base x H)) m := by
  induction h with
  | nil => exact .nil
  | cons h1 _ ih =>
    rw [List.map_cons, List.all_cons, Bool.and_eq_true] at hk
    exact .cons (frzS_ok hI h1 hk.1) (ih hk.2)
theorem frzV1_ok (hI : Inv nb w F β H) {s : PV} {u : Value} (h : RV1 w F β s u) (hk : okV1 (okX base x) (frzV1 base x H s) = true) : RV1 w (endFF base x F β H) (endB base x β) (frzV1 base x H s) u := by
  cases s with
  | one s => exact frzS_ok hI h hk
  | agg l => obtain ⟨m, rfl, h1⟩ := h; exact ⟨m, rfl, all2_frz hI h1 hk⟩
  | fn f l => exact RV1.step (end_step base x w F β H) hk h
  | tup l => exact h.elim
theorem frzV_ok (hI : Inv nb w F β H) {s : PV} {u : Value} (h : RV w F β s u) (hk : okV (okX base x) (frzV base x H s) = true) : RV w (endFF base x F β H) (endB base x β) (frzV base x H s) u := by
  cases s with
  | one s => exact frzS_ok hI h hk
  | agg l => obtain ⟨m, rfl, h1⟩ := h; exact ⟨m, rfl, all2_frz hI h1 hk⟩
  | fn f l => exact RV.step (end_step base x w F β H) hk h
  | tup l =>
    obtain ⟨m, rfl, h1⟩ := h
    refine ⟨m, rfl, ?_⟩
    have hk' : (l.map (frzV1 base x H)).all (okV1 (okX base x)) = true := hk
    clear hk
    induction h1 with
    | nil => exact .nil
    | cons h2 _ ih =>
      rw [List.map_cons, List.all_cons, Bool.and_eq_true] at hk'
      exact .cons (frzV1_ok hI h2 hk'.1) (ih hk'.2)
theorem end_ok {w0 : World} {F0 : Nat → Prop} {β0 : Blocks} {H0 : Heap} (hR : Run (lowK base ks) w0 F0 β0 H0 w F β H) (hI : Inv nb w F β H) (hE : okE nb w F β a.tmps E) {fn : Func} {v : PV} {H' : Heap} (h : endF P base fn E H = some (v, H')) :
    ∃ u F' β', (results fn a.tmps).run P w = .ok u w ∧ RN (base + 1) w F' β' v u ∧ Inv (base + 1) w F' β' H' ∧ Run (lowK base ks) w0 F0 β0 H0 w F' β' H' := by
  unfold endF at h
  split at h
  case h_2 => cases h
  rename_i v1 hv1
  obtain ⟨u, h9, h10⟩ := res_ok (P := P) hI hE hv1
  generalize hx : ownX base H v1 = x at h
  clear hx
  unfold endX at h
  split at h
  case isFalse => cases h
  rename_i hok
  have hv := frzV_ok hI h10.1 hok
  have run : ∀ {X : Heap}, (∀ p ∈ X, p ∈ H) → Run (lowK base ks) w0 F0 β0 H0 w (endFF base x F β H) (endB base x β) X := fun {X} hX => ⟨hR.step.trans ((end_step base x w F β H).weaken (fun z hz => okX_lt (low_lt hz))), hR.frame, fun o l u b hm hb hk hlt => hR.olds o l u b (hX _ hm) (endB_some hb).2 hk hlt, fun b hF hb => by
    rcases hF with hF | ⟨o, l, u1, hm, _, _, ho, hk⟩
    · exact hR.fresh b hF hb
    · obtain ⟨o0, l0, u0, q1, q2, q3⟩ := hR.olds o l u1 b hm ho hk hb
      exact .inr ⟨o0, l0, u0, q1, q2, q3⟩⟩
  split at h
  case h_2 => cases h
  rename_i H2 hl
  obtain ⟨h11, h12⟩ := low_ok (x := x) hI hl
  split at h
  · rename_i o
    split at h
    case h_2 => cases h
    rename_i t e n row hf
    split at h
    case isFalse => cases h
    rename_i hbo
    obtain ⟨rfl, rfl⟩ := Prod.mk.inj (Option.some.inj h)
    have hX : ∀ p ∈ [(o, OB.rows t e n row)], p ∈ H ∧ some o = some p.1 ∧ obOk (okX base (some o)) p.2 = true := fun p hp => by
      rcases List.mem_singleton.1 hp with rfl
      exact ⟨findH_mem hf, rfl, rfl⟩
    have hrest : ∀ p ∈ H2, okRest o base (base + 1) p := fun p hp => by
      obtain ⟨_, q1, q2⟩ := h12 p hp
      refine ⟨by omega, by omega, by omega, ?_⟩
      exact obOk_imp (fun z hz => by
          simp only [okX, Bool.or_eq_true, decide_eq_true_eq, beq_iff_eq, Option.some.injEq] at hz
          by_cases e : z = o
          · simp [e]
          · have : z < base := hz.resolve_right (fun q => e q.symm)
            simp [e]
            omega) q2
    have h13 := run (X := (o, OB.rows t e n row) :: H2) (fun p hp => by
      rcases List.mem_cons.1 hp with rfl | hp
      · exact findH_mem hf
      · exact (h12 p hp).1)
    refine ⟨u, _, _, h9, rnV_ok (fun z hz => ?_) hv hok, turn_ok (h11 [(o, OB.rows t e n row)] hX) (Nat.lt_succ_self _) hrest, (turn_run h13 hrest).weaken (fun z hz => by have := low_lt hz; rw [Bool.and_eq_true]; exact ⟨hz, by simp; omega⟩)⟩
    unfold okX at hz
    simp only [Bool.or_eq_true, decide_eq_true_eq, beq_iff_eq, Option.some.injEq] at hz
    by_cases ez : z = o
    · subst ez
      rw [if_pos rfl]
      exact ⟨turn_at, by simp⟩
    · rw [if_neg ez]
      have hzb : z < base := hz.resolve_right (fun q => ez q.symm)
      exact ⟨turn_far ez (Nat.ne_of_lt hzb), by simp; omega⟩
  · obtain ⟨rfl, rfl⟩ := Prod.mk.inj (Option.some.inj h)
    refine ⟨u, _, _, h9, ⟨hv, okV_imp (fun z hz => ?_) hok⟩, ?_, run (fun p hp => (h12 p hp).1)⟩
    · unfold okX at hz
      simp at hz ⊢
      omega
    · refine down_ok (h11 [] (fun p hp => nomatch hp)) (List.all_eq_true.2 (fun p hp => ?_))
      obtain ⟨_, q1, q2⟩ := h12 p hp
      rw [Bool.and_eq_true]
      refine ⟨by simp; omega, ?_⟩
      exact obOk_imp (fun z hz => by simp [okX] at hz ⊢; omega) q2
theorem callF_ok (hM : Sound P L M) (hm : P.follows .mixedOrders = true) (fl : Nat) : Sound P L (upM (callF P L D fl M)) := by
  intro base f vs H v9 H9 h00 w F β us hL hI hus
  obtain ⟨⟨v, H'⟩, h, e0⟩ := Option.map_eq_some_iff.1 h00
  clear h00
  obtain ⟨rfl, rfl⟩ := Prod.mk.inj (Prod.mk.inj e0).2
  unfold callF at h
  split at h
  case h_2 => cases h
  rename_i fn hf
  split at h
  case isFalse => cases h
  rename_i hname
  unfold fev at h
  split at h
  case h_2 => cases h
  rename_i c hb
  refine ⟨⟨fn, hf, hname, by rw [hb]; rfl⟩, calls_of_wp hf hb ?_⟩
  have hlen : vs.length = us.length := hus.length
  refine cwp_ok (ks := ksOf H) hM hm (Nat.le_succ_of_le (Nat.le_add_right _ _)) (liveF fn) fl c _ H _ w F β _ h hL (hI.up (Nat.le_succ_of_le (Nat.le_add_right _ _))) ?_ (by simp [hlen]) (fun e a' w' F' β' E' H1 h1 h2 h3 h4 h5 h6 h7 => ?_)
  · intro x hx
    obtain ⟨i, hi, rfl⟩ := List.getElem_of_mem hx
    simp only [List.length_zipWith, List.length_range, Nat.min_self] at hi
    have hiu : i < us.length := by omega
    simp only [List.getElem_zipWith, List.getElem_range]
    refine ⟨by simp; omega, ?_⟩
    obtain ⟨u, hu, hr⟩ := hus.get (List.getElem?_eq_getElem hi)
    have e : (us.toArray ++ Array.replicate (fn.ntmps - us.toArray.size) undef).getD i undef = u := by
      rw [Array.getD_eq_getD_getElem?, Array.getElem?_append_left (by simpa using hiu)]
      simp [hu]
    rw [e]
    exact ⟨hr.1, okV_imp (fun x hx => by simp at hx ⊢; omega) hr.2⟩
  · have key : endF P base fn E' H1 = some (v, H') → bodyPost P fn (fun e w' => ∃ (u : Value) (F' : Nat → Prop) (β' : Blocks), e = .returned u ∧ RN (base + 1) w' F' β' v u ∧ Inv (base + 1) w' F' β' H' ∧ Run (lowK base (ksOf H)) w F β H w' F' β' H') .ret a' w' := fun h8 => by
      obtain ⟨u, F2, β2, h9, h10, h11, h12⟩ := end_ok (P := P) h6 h4 h5 h8
      exact ⟨h2, u, h9, u, F2, β2, rfl, h10, h11, h12⟩
    cases e with
    | ret => exact key h7
    | normal => exact key h7
    | _ => cases h7
theorem none_ok : Sound P L (fun _ _ _ _ => none) := fun _ _ _ _ _ _ h => by cases h
end sound
end Go.Proofs.Ytobfnncpjkeloaa.Ev
