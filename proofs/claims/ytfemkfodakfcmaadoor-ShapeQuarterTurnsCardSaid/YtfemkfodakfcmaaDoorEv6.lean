import Derived.Test.YtfemkfodakfcmaaDoorEv5d
namespace Go.Proofs.YtfemkfodakfcmaaDoor.Ev
open Go Go.RowKit Go.Proofs.YtfemkfodakfcmaaDoorW.PrintLast
/-! #### any operation -/
/-- The Bool: what must hold of the arguments. -/
abbrev Orac := Nat → FuncId → List PV → Heap → Option (Bool × PV × Heap)
/-- A function with a body of its own. -/
def goesTo (P : Program) (f : FuncId) : Prop := ∃ fn, P.funcs[f]? = some fn ∧ (fn.name == "runtime.NumGoroutine") = false ∧ fn.body.isSome = true
/-- What an oracle answers is what the machine's call answers. -/
def Sound (P : Program) (L : Globs) (M : Orac) : Prop := ∀ nb f vs H v H', M nb f vs H = some (true, v, H') → ∀ (w : World) (F : Nat → Prop) (β : Blocks) (us : List Value), okG w F L → Inv nb w F β H → All2 (RN nb w F β) vs us →
  goesTo P f ∧ Calls P f us.toArray w (fun e w' => ∃ (u : Value) (F' : Nat → Prop) (β' : Blocks), e = .returned u ∧ RN (nb + 1) w' F' β' v u ∧ Inv (nb + 1) w' F' β' H' ∧ Run (fun o => decide (o < nb)) w F β H w' F' β' H')
def flat (vs : List PV) : Bool := vs.all (okV fun _ => false)
/-- What a call answers: a row that it hands back has the name nb; it gets the name of the slot. -/
def ad1 {α : Type} (nb base : Nat) (dst : Option Tmp) (v : PV) (H1 : Heap) (k : PV → Heap → Option Nat → Option α) : Option α := match H1, dst with
  | (o, .rows t e n row) :: H2, some d => if o = nb then (if (decide (base + d < nb) && (okV (fun z => z != base + d) v && lowB nb H2)) = true then (match newH H2 (base + d) (.rows t e n row) with | some H' => k (rnV nb (base + d) v) H' (some (base + d)) | none => none) else none)
      else if (okV (fun z => decide (z < nb)) v && lowB nb ((o, .rows t e n row) :: H2)) = true then k v ((o, .rows t e n row) :: H2) none else none
  | H1, _ => if (okV (fun z => decide (z < nb)) v && lowB nb H1) = true then k v H1 none else none
/-- A call: what names no object is given none, and a name space of its own. -/
def c1 {α : Type} (M : Orac) (nb base : Nat) (dst : Option Tmp) (f : FuncId) (vs : List PV) (H : Heap) (k : PV → Heap → Option Nat → Option α) : Option α :=
  if flat vs = true then (M 0 f vs []).bind (fun r => if r.1 = true then (match r.2.2 with
    | [] => if okV (fun _ => false) r.2.1 = true then k r.2.1 H none else none
    | [(o, .rows t e n row)] => if o = 0 then ad1 nb base dst (rnV 0 nb r.2.1) ((nb, .rows t e n row) :: H) k else none
    | _ => none) else none) else (M nb f vs H).bind (fun r => if r.1 = true then ad1 nb base dst r.2.1 r.2.2 k else none)
def bytesIn (P : Program) (t : TypeId) : Option Nat := (P.info? t).map (·.bytes)
/-- The row that is appended: its length, its cells. -/
def srcOf (H : Heap) (e : Nat) : PV → Option (Nat × (Nat → Nat → PS))
  | .one (.view m e' new) => if e' = e then some (m, new) else none
  | .one (.os o) => (match findH H o with | some (.rows _ e' m new) => if e' = e then some (m, new) else none | _ => none)
  | _ => none
/-- The row that is appended to: its name, its length, its cells. -/
def dstOf (H : Heap) (te e nw : Nat) : PV → Option (Nat × Nat × (Nat → Nat → PS))
  | .one .nils => some (nw, 0, fun _ _ => .nilp)
  | .one (.os o) => (match findH H o with | some (.rows te' e' n row) => if te' = te ∧ e' = e then some (o, n, row) else none | _ => none)
  | _ => none
def app1 {α : Type} (P : Program) (nb base : Nat) (C : Bool) (H : Heap) (d : Nat) (te : TypeId) (s x : PV) (k : PV → Heap → Option Nat → Option α) : Option α := match sizeIn P te, bytesIn P te, zeroIn P te with
  | some e, some by_, some z => (match dstOf H te e (base + d) s, srcOf H e x with
    | some (o, n, row), some (m, new) => if (decide (z.length = e ∧ 0 < e ∧ base ≤ o ∧ o < nb)) = true then
        (if C = true then (if (decide (0 < m) && (decide (n + m ≤ maxLen) && decide ((n + m) * by_ ≤ 140737488355328))) = true then k (.one (.os o)) ((o, .rows te e (n + m) (appRow n row new)) :: killH o H) (some o) else none) else k (.one .nils) H (some o)) else none
    | _, _ => none)
  | _, _, _ => none
def lit1 {α : Type} (P : Program) (L : Globs) (nb base : Nat) (E : En) (G : List (Nat × Bool)) (C : Bool) (H : Heap) (d : Nat) (te : TypeId) (len : Nat) (parts : List (Nat × Operand)) (k : PV → Heap → Option Nat → Option α) : Option α := match sizeIn P te, zeroIn P te, partsOf L E G parts with
  | some e, some z, some ps => (match fillP (fun i => some (i * e, e)) ((List.range (len * e)).map fun i => z.getD (i % e) .nilp) ps with
    | some l => if (decide (z.length = e ∧ 0 < e ∧ base + d < nb ∧ l.length = len * e ∧ len * e ≤ 16777216) && l.all noPtr) = true then
        (if C = true then (match newH H (base + d) (.rows te e len (litRow e l)) with | some H' => k (.one (.os (base + d))) H' (some (base + d)) | none => none) else k (.one .nils) H (some (base + d))) else none
    | none => none)
  | _, _, _ => none
def sameOp : Operand → Operand → Bool
  | .tmp a, .tmp b => a == b
  | _, _ => false
def make1 {α : Type} (P : Program) (nb base : Nat) (C : Bool) (H : Heap) (d : Nat) (te : TypeId) (same : Bool) (n n2 : Int) (k : PV → Heap → Option Nat → Option α) : Option α := match sizeIn P te, bytesIn P te, zeroIn P te with
  | some e, some by_, some z => if (decide (z.length = e ∧ 0 < e ∧ base + d < nb) && (z.all noPtr && (same || decide (n = n2)))) = true then
      (if C = true then (if (decide (0 ≤ n) && (decide (n.toNat ≤ maxLen) && decide (by_ * n.toNat ≤ 281474976710656))) = true then
        (match newH H (base + d) (.rows te e n.toNat (fun _ j => z.getD j .nilp)) with | some H' => k (.one (.os (base + d))) H' (some (base + d)) | none => none) else none) else k (.one .nils) H (some (base + d))) else none
  | _, _, _ => none
/-- An own array that is sliced whole: it is only read from then on. -/
def arr1 {α : Type} (P : Program) (base : Nat) (C St : Bool) (H : Heap) (o n : Nat) (te : TypeId) (k : PV → Heap → Option Nat → Option α) : Option α := if St = true then (match findH H o, sizeIn P te with
  | some (.box l), some e => if (decide (base ≤ o ∧ 0 < e ∧ l.length = n * e ∧ 0 < n) && l.all noPtr) = true then (if C = true then k (.one (.view n e (litRow e l))) (vwH o .nilp H) (some o) else k (.one .nils) H (some o)) else none
  | _, _ => none) else none
def ptr0 : Option PV → Option Nat
  | some (.one (.ptr o 0)) => some o
  | _ => none
/-- St: is all known of the operation's guard? The last argument of k: the object whose mentions are void behind it. -/
def o1 {α : Type} (P : Program) (L : Globs) (M : Orac) (D : FuncId → PV) (nb base : Nat) (E : En) (G : List (Nat × Bool)) (C St : Bool) (H : Heap) (dst : Option Tmp) (o : Op) (k : PV → Heap → Option Nat → Option α) : Option α := match o with
  | .alloc t => if St = true then (match dst, zeroIn P t with
    | some d, some z => if base + d < nb then (if C = true then (match newH H (base + d) (.box z) with | some H' => k (.one (.ptr (base + d) 0)) H' (some (base + d)) | none => none) else k (.one .nilp) H (some (base + d))) else none
    | _, _ => none) else none
  | .box _ x => if St = true then (match dst, opnd L E G x with
    | some d, some v => (match cellsOf v with
      | some z => if base + d < nb then (if C = true then (match newH H (base + d) (.box z) with | some H' => k (.one (.ptr (base + d) 0)) H' (some (base + d)) | none => none) else k (.one .nilp) H (some (base + d))) else none
      | none => none)
    | _, _ => none) else none
  | .store t x y => if St = true then (match dst, opnd L E G x, opnd L E G y with
    | none, some (.one (.ptr ob off)), some v => (match cellsOf v, findH H ob, sizeIn P t with
      | some vl, some (.box cells), some n => if n = vl.length ∧ off + vl.length ≤ cells.length then (if C = true then k (.one .nilp) (setH H ob (.box (cells.take off ++ vl ++ cells.drop (off + vl.length)))) none else k (.one .nilp) H none) else none
      | _, _, _ => none)
    | none, some (.one (.rp ob e i off)), some v => (match cellsOf v, findH H ob, sizeIn P t with
      | some vl, some (.rows te e' nn row), some n => if n = vl.length ∧ off + vl.length ≤ e ∧ e' = e ∧ vl.all noPtr = true then (if C = true then (if decide (i < nn) = true then k (.one .nilp) (setH H ob (.rows te e nn (putRow row i off vl))) none else none) else k (.one .nilp) H none) else none
      | _, _, _ => none)
    | _, _, _ => none) else none
  | .buildSlice t len parts => if St = true then (match dst, P.underlying t with
    | some d, some (.slice te) => lit1 P L nb base E G C H d te len parts.toList k
    | _, _ => none) else none
  | .makeSlice t x y => if St = true then (match dst, P.underlying t, opnd L E G x, opnd L E G y with
    | some d, some (.slice te), some (.one (.int _ n)), some (.one (.int _ n2)) => make1 P nb base C H d te (sameOp x y) n n2 k
    | _, _, _, _ => none) else none
  | .call ⟨.builtin .append, ⟨[s, x]⟩, ⟨[t1, t2]⟩⟩ => if St = true then (match dst, P.underlying t1, opnd L E G s, opnd L E G x with
    | some d, some (.slice te), some sv, some xv => if t1 = t2 then app1 P nb base C H d te sv xv k else none
    | _, _, _, _ => none) else none
  | .call ⟨.value fo, xs, _⟩ => if St = true then (match opnd L E G fo, xs.toList.mapM (opnd L E G) with
    | some (.fn f caps), some vs => if C = true then c1 M nb base dst f (vs ++ caps.map .one) H k else k (D f) H none
    | _, _ => none) else none
  | .slice t x none none none => (match ptr0 (opnd L E G x), P.underlying t with
    | some o, some (.array n te) => arr1 P base C St H o n te k
    | _, _ => vq P L E G C H (.slice t x none none none) (fun v => k v H none))
  | o => vq P L E G C H o (fun v => k v H none)
def okOf : Option Nat → Nat → Bool
  | some x => fun y => y != x
  | none => fun _ => true
section sound
variable {nb base : Nat} {P : Program} {w : World} {F : Nat → Prop} {β : Blocks} {E : En} {G : List (Nat × Bool)} {L : Globs} {H : Heap} {a : Act} {α : Type} {z : α} {M : Orac} {D : FuncId → PV}
theorem wp_value {o : Oper} {v : Value} {Kc : Act → World → Prop} {Q : Exit → Act → World → Prop} {w' : World} (h : (execOp a.eval o).run P w = .ok (.value v) w') (hk : Kc (a.put o.dst v) w') : o.wp P a w Kc Q := by
  unfold Oper.wp; rw [h]; exact hk
theorem ex_call {dst : Option Tmp} {fo : Operand} {xs : Array Operand} {ats : Array TypeId} {ty : TypeId} {pos : String} {after : Array Edge} {guard : Option (Nat × Bool)} {f : FuncId} {m : Array Value} (h : a.eval fo = .func (.func f) #[] m) :
    execOp a.eval ⟨dst, .call ⟨.value fo, xs, ats⟩, ty, pos, after, guard⟩ = callFunc f ((#[] ++ xs.map a.eval) ++ m) := by
  show (do let d ← resolve a.eval ⟨.value fo, xs, ats⟩ ty; invoke d.target d.args) = _
  unfold resolve
  simp only [h, Deferred.ofValue]
  rfl
/-- What is asked of an operation that may change memory. -/
def Does (P : Program) (nb : Nat) (w : World) (F : Nat → Prop) (β : Blocks) (H : Heap) (a : Act) (o : Oper) (ok : Nat → Bool) (v : PV) (H' : Heap) : Prop := ∀ (Kc : Act → World → Prop) (Q : Exit → Act → World → Prop),
  (∀ (w' : World) (F' : Nat → Prop) (β' : Blocks) (u : Value), (o.dst ≠ none → RN nb w' F' β' v u) → Inv nb w' F' β' H' → Run ok w F β H w' F' β' H' → Kc (a.put o.dst u) w') → o.wp P a w Kc Q
theorem cells_of (hE : okE nb w F β a.tmps E) (hL : okG w F L) (hG : holdsG a.tmps G) {x : Operand} {v : PV} {vl : List PS} (hx : opnd L E G x = some v) (hc : cellsOf v = some vl) : All2 (RS w F β) vl (a.eval x).cells.toList ∧ vl.all (okS (fun y => decide (y < nb))) = true := by
  have := parts_ok (xs := [(0, x)]) (vs := [(0, vl)]) hL hE hG (by unfold partsOf; rw [hx]; simp only [hc]; rfl)
  cases this with
  | cons h _ => exact h.2
theorem one_cells {v : Value} {vl : List PS} (h : All2 (RS w F β) vl v.cells.toList) : ∀ u ∈ v.cells.toList, u.oneCell' = true := by
  generalize v.cells.toList = m at h
  induction h with
  | nil => intro u hu; cases hu
  | cons h1 _ ih => intro u hu; rcases List.mem_cons.1 hu with rfl | hu; exact RS.one h1; exact ih u hu
theorem RS_notagg {s : PS} {v : Value} (h : RS w F β s v) : v.cells = #[v] := by
  have := RS.one h
  cases v <;> simp_all [Value.cells, Value.oneCell']
theorem ex_slice_arr {ρ : Operand → Value} {dst : Option Tmp} {ty : TypeId} {pos : String} {after : Array Edge} {guard : Option (Nat × Bool)} {x : Operand} {t e : TypeId} {b n sz : Nat} (hx : ρ x = .pointer (some ⟨b, 0, none⟩)) (ht : P.underlying t = some (.array n e)) (hi : (P.info? e).map (·.size) = some sz) :
    (execOp ρ ⟨dst, .slice t x none none none, ty, pos, after, guard⟩).run P w = .ok (.value (.slice (some ⟨b, 0, none⟩) n n)) w := by
  cases hq : P.info? e with
  | none => simp [hq] at hi
  | some i' =>
    by_cases h0 : n = 0 <;> simp [execOp, hx, Instr.sliceAt, Instr.sureAddr, Instr.sliceBounds, Sem.run_bind, run_underlying ht, sizeOf, typeInfo, hq, Addr.add, h0]
theorem okOf_lt {kl : Option Nat} {w' : World} {F' : Nat → Prop} {β' : Blocks} {H' : Heap} (h : Run (fun o => decide (o < nb)) w F β H w' F' β' H') (hk : kl = none) : Run (fun x => okOf kl x && decide (x < nb)) w F β H w' F' β' H' := by
  subst hk
  exact h.weaken (fun x hx => by simpa [okOf] using hx)
theorem ad1_ok {dst : Option Tmp} {v : PV} {H1 : Heap} {k : PV → Heap → Option Nat → Option α} (h : ad1 nb base dst v H1 k = some z) :
    ∃ v' H' kl, k v' H' kl = some z ∧ (∀ x, kl = some x → base ≤ x) ∧ ∀ {w' : World} {F' : Nat → Prop} {β' : Blocks} {u : Value}, RN (nb + 1) w' F' β' v u → Inv (nb + 1) w' F' β' H1 → Run (fun o => decide (o < nb)) w F β H w' F' β' H1 →
      ∃ β'', RN nb w' F' β'' v' u ∧ Inv nb w' F' β'' H' ∧ Run (fun x => okOf kl x && decide (x < nb)) w F β H w' F' β'' H' := by
  have plain : (if (okV (fun z => decide (z < nb)) v && lowB nb H1) = true then k v H1 none else none) = some z → ∃ v' H' kl, k v' H' kl = some z ∧ (∀ x, kl = some x → base ≤ x) ∧ ∀ {w' : World} {F' : Nat → Prop} {β' : Blocks} {u : Value}, RN (nb + 1) w' F' β' v u → Inv (nb + 1) w' F' β' H1 → Run (fun o => decide (o < nb)) w F β H w' F' β' H1 →
      ∃ β'', RN nb w' F' β'' v' u ∧ Inv nb w' F' β'' H' ∧ Run (fun x => okOf kl x && decide (x < nb)) w F β H w' F' β'' H' := fun h => by
    split at h
    case isFalse => cases h
    rename_i hc
    rw [Bool.and_eq_true] at hc
    exact ⟨v, H1, none, h, fun x hx => (nomatch hx), fun {w' F' β' u} h1 h2 h3 => ⟨β', ⟨h1.1, hc.1⟩, down_ok h2 hc.2, okOf_lt h3 rfl⟩⟩
  unfold ad1 at h
  split at h
  · rename_i o t e n row H2 d
    split at h
    · rename_i ho
      subst ho
      split at h
      case isFalse => cases h
      rename_i hc
      simp only [Bool.and_eq_true, decide_eq_true_eq] at hc
      obtain ⟨h1, h2, h3⟩ := hc
      split at h
      · rename_i H' hH
        refine ⟨_, H', _, h, fun x hx => by rw [← Option.some.inj hx]; exact Nat.le_add_right _ _, fun {w' F' β' u} h4 h5 h6 => ?_⟩
        obtain ⟨h7, h8⟩ := adopt_ok h5 h6 h1 h3 hH
        exact ⟨_, adopt_val h4 h1 h2, h7, h8⟩
      · cases h
    · exact plain h
  · exact plain h
include P in
theorem call_ok (hM : Sound P L M) (hL : okG w F L) (hI : Inv nb w F β H) {dst : Option Tmp} {f : FuncId} {vs : List PV} {us : List Value} (hvs : All2 (RN nb w F β) vs us) {k : PV → Heap → Option Nat → Option α} (h : c1 M nb base dst f vs H k = some z) :
    ∃ v H' kl, k v H' kl = some z ∧ (∀ x, kl = some x → base ≤ x) ∧ goesTo P f ∧ Calls P f us.toArray w (fun e w' => ∃ (u : Value) (F' : Nat → Prop) (β' : Blocks), e = .returned u ∧ RN nb w' F' β' v u ∧ Inv nb w' F' β' H' ∧ Run (fun x => okOf kl x && decide (x < nb)) w F β H w' F' β' H') := by
  unfold c1 at h
  split at h
  · rename_i hfl
    obtain ⟨⟨pb, v, H'⟩, h1, h2⟩ := Option.bind_eq_some_iff.1 h
    simp only at h2
    split at h2
    case isFalse => cases h2
    rename_i hpb
    subst hpb
    obtain ⟨h3, h4⟩ := hM 0 f vs [] v H' h1 w F (fun _ => none) us hL hI.start (hvs.imp (fun v _ hm r => RN_none (List.all_eq_true.1 hfl v hm) 0 _ r))
    split at h2
    · split at h2
      case isFalse => cases h2
      rename_i hfv
      refine ⟨v, H, none, h2, fun x hx => (nomatch hx), h3, h4.mono ?_⟩
      rintro e w' ⟨u, F', β', rfl, h5, h6, h7⟩
      obtain ⟨h8, h9⟩ := hI.call h6.nil0 h7
      exact ⟨u, F', β, rfl, RN_none hfv nb β h5, h8, okOf_lt h9 rfl⟩
    · rename_i o t e n row
      split at h2
      case isFalse => cases h2
      rename_i ho
      subst ho
      obtain ⟨v', H', kl, q1, q2, q3⟩ := ad1_ok (w := w) (F := F) (β := β) (H := H) h2
      refine ⟨v', H', kl, q1, q2, h3, h4.mono ?_⟩
      rintro e w' ⟨u, F', β', rfl, h5, h6, h7⟩
      obtain ⟨h8, h9⟩ := lift_ok hI h6 h7
      obtain ⟨β'', h10, h11, h12⟩ := q3 (lift_val h5) h8 h9
      exact ⟨u, F', β'', rfl, h10, h11, h12⟩
    · cases h2
  · obtain ⟨⟨pb, v, H1⟩, h1, h2⟩ := Option.bind_eq_some_iff.1 h
    simp only at h2
    split at h2
    case isFalse => cases h2
    rename_i hpb
    subst hpb
    obtain ⟨h3, h4⟩ := hM nb f vs H v H1 h1 w F β us hL hI hvs
    obtain ⟨v', H', kl, q1, q2, q3⟩ := ad1_ok (w := w) (F := F) (β := β) (H := H) h2
    refine ⟨v', H', kl, q1, q2, h3, h4.mono ?_⟩
    rintro e w' ⟨u, F', β', rfl, h5, h6, h7⟩
    obtain ⟨β'', h10, h11, h12⟩ := q3 h5 h6 h7
    exact ⟨u, F', β'', rfl, h10, h11, h12⟩
theorem all2_app_caps {vs : List PV} {us : List Value} {caps : List PS} {m : List Value} (h1 : All2 (RN nb w F β) vs us) (h2 : All2 (RS w F β) caps m) (h3 : caps.all (okS (fun y => decide (y < nb))) = true) : All2 (RN nb w F β) (vs ++ caps.map .one) (us ++ m) := by
  refine h1.app ?_
  induction h2 with
  | nil => exact .nil
  | cons h4 _ ih =>
    rw [List.all_cons, Bool.and_eq_true] at h3
    exact .cons ⟨h4, h3.1⟩ (ih h3.2)
theorem new_does (hI : Inv nb w F β H) {o : Oper} {d : Tmp} {t : TypeId} {cv : Value} {zl : List PS} {H' : Heap} (hlt : base + d < nb) (hz : zl.all (okS (fun x => decide (x < nb))) = true) (hc : All2 (RS w F β) zl cv.cells.toList) (hH : newH H (base + d) (.box zl) = some H')
    (hr : (execOp a.eval o).run P w = .ok (.value (.pointer (some ⟨w.heap.size, 0, none⟩))) { w with heap := w.heap.push (.cells cv.cells t) }) : Does P nb w F β H a o (okOf (some (base + d))) (.one (.ptr (base + d) 0)) H' := by
  intro Kc Q hk
  obtain ⟨h1, h2⟩ := new_box hI hlt hz t hc hH
  exact wp_value hr (hk _ F _ _ (fun _ => ⟨⟨_, putB_same _ _ _, rfl⟩, by simpa [okV, okS] using hlt⟩) h1 h2)
theorem zero_pad {e len : Nat} {z : List PS} {zv : Array Value} (hz : All2 (RS w F β) z zv.toList) (hzn : z.all (okS (fun x => decide (x < nb))) = true) (hl : z.length = e) (he : 0 < e) : All2 (RS w F β) ((List.range (len * e)).map fun i => z.getD (i % e) .nilp) ((Array.range (len * e)).map (zv[· % zv.size]!)).toList ∧ ((List.range (len * e)).map fun i => z.getD (i % e) .nilp).all (okS (fun x => decide (x < nb))) = true := by
  have hsz : zv.size = e := by have := hz.length; simp at this; omega
  have hm : ∀ i, i % e < z.length := fun i => by rw [hl]; exact Nat.mod_lt _ he
  refine ⟨All2.of_get (by simp) (fun i s v hs hv => ?_), ?_⟩
  · simp only [List.getElem?_map, Option.map_eq_some_iff, Array.toList_map, Array.toList_range] at hs hv
    obtain ⟨i1, h1, rfl⟩ := hs
    obtain ⟨i2, h2, rfl⟩ := hv
    rw [h1] at h2
    obtain rfl := Option.some.inj h2
    obtain ⟨u, h3, h4⟩ := hz.get (List.getElem?_eq_getElem (hm i1))
    have e1 : z.getD (i1 % e) .nilp = z[i1 % e]'(hm i1) := by simp [List.getD_eq_getElem?_getD, hm i1]
    rw [e1, hsz]
    have e2 : zv[i1 % e]! = u := by
      have h5 : zv[i1 % e]? = some u := by simpa using h3
      rw [Array.getElem!_eq_getD, Array.getD_eq_getD_getElem?, h5]; rfl
    rw [e2]; exact h4
  · rw [List.all_eq_true] at hzn ⊢
    intro s hs
    obtain ⟨i1, _, rfl⟩ := List.mem_map.1 hs
    have e1 : z.getD (i1 % e) .nilp = z[i1 % e]'(hm i1) := by simp [List.getD_eq_getElem?_getD, hm i1]
    rw [e1]
    exact hzn _ (List.getElem_mem _)
theorem lit_ok (hL : okG w F L) (hI : Inv nb w F β H) (hE : okE nb w F β a.tmps E) {C : Bool} {o : Oper} {d : Tmp} (hd : o.dst = some d) {t te : TypeId} {len : Nat} {parts : Array (Nat × Operand)} (hop : o.op = .buildSlice t len parts) (ht : P.underlying t = some (.slice te)) {k : PV → Heap → Option Nat → Option α} (h : lit1 P L nb base E G C H d te len parts.toList k = some z) :
    ∃ v H' kl, k v H' kl = some z ∧ (∀ x, kl = some x → base ≤ x) ∧ (H' = H ∨ C = true) ∧ (holdsG a.tmps G → C = true → Does P nb w F β H a o (okOf kl) v H') := by
  unfold lit1 at h
  split at h
  · rename_i e zl ps he hz hps
    split at h
    · rename_i l hl
      split at h
      case isFalse => cases h
      rename_i hq
      rw [Bool.and_eq_true, decide_eq_true_eq] at hq
      obtain ⟨⟨h1, h2, h3, h4, h5⟩, h6⟩ := hq
      split at h
      · rename_i hC
        split at h
        · rename_i H' hH
          refine ⟨_, H', _, h, fun x hx => by rw [← Option.some.inj hx]; exact Nat.le_add_right _ _, .inr hC, fun hG _ => ?_⟩
          obtain ⟨i, zv, h7, h8, h9, h10⟩ := zero_ok (nb := nb) (w := w) (F := F) (β := β) hz
          obtain ⟨h11, h12⟩ := zero_pad (len := len) h9 h10 h1 h2
          obtain ⟨arr, h13, h14, h15⟩ := fill_ok (pl' := fun i => some (i * e, e)) (fun _ => rfl) (parts_ok hL hE hG hps) h11 h12 hl
          have hie : i.size = e := by
            obtain ⟨i', h16, h17⟩ := Option.map_eq_some_iff.1 he
            rw [h7] at h16; obtain rfl := Option.some.inj h16; exact h17
          have hmax : len ≤ maxLen := by
            have : len * 1 ≤ len * e := Nat.mul_le_mul_left _ h2
            simp only [maxLen]; omega
          obtain ⟨h18, h19⟩ := new_row hI h3 h14 h6 h4 hmax hH
          intro Kc Q hk
          refine wp_value (v := .slice (some ⟨w.heap.size, 0, none⟩) len len) ?_ (hk _ F _ _ (fun _ => ⟨⟨_, _, _, putB_same _ _ _, rfl⟩, by simpa [okV, okS] using h3⟩) h18 h19)
          obtain ⟨dst, op, ty, pos, after, guard⟩ := o
          simp only at hop
          subst hop
          have hparts : (parts.map fun (x : Nat × Operand) => (x.1, a.eval x.2)).toList = parts.toList.map fun p => (p.1, a.eval p.2) := by simp
          have h13' : Instr.fill (fun i => some (i * e, e)) ((Array.range (len * e)).map (zv.cells[· % zv.cells.size]!)) (parts.map fun (x : Nat × Operand) => (x.1, a.eval x.2)).toList = some arr := by rw [hparts]; exact h13
          unfold execOp
          simp only [Instr.buildSlice, Sem.run_bind, run_underlying ht, sizeOf, typeInfo, Sem.run_pure, Result.andThen_ok, zeroValue]
          have hr0 : Array.range 0 = #[] := rfl
          by_cases h0 : len * e = 0
          · have hl0 : len = 0 := by rcases Nat.mul_eq_zero.1 h0 with h | h <;> omega
            subst hl0
            have h13b : Instr.fill (fun i => some (i * e, e)) #[] (parts.map fun (x : Nat × Operand) => (x.1, a.eval x.2)).toList = some arr := by
              have := h13'
              rw [Nat.zero_mul, hr0, Array.map_empty] at this
              exact this
            have hpl : (parts.map fun (x : Nat × Operand) => (x.1, a.eval x.2)).toList = parts.toList.map fun (x : Nat × Operand) => (x.1, a.eval x.2) := by simp
            rw [hpl] at h13b
            simp [h7, hie, hr0, h13b, Sem.run, newRow, newObj, program]
          · simp_all [Sem.run, newRow, newObj, program]
        · cases h
      · rename_i hC
        exact ⟨_, H, _, h, fun x hx => by rw [← Option.some.inj hx]; exact Nat.le_add_right _ _, .inl rfl, fun _ hC' => absurd hC' hC⟩
    · cases h
  · cases h
theorem make_ok (hL : okG w F L) (hI : Inv nb w F β H) (hE : okE nb w F β a.tmps E) {C : Bool} {o : Oper} {d : Tmp} (hd : o.dst = some d) {x y : Operand} {t te : TypeId} (hop : o.op = .makeSlice t x y) (ht : P.underlying t = some (.slice te)) {k1 k2 : IntKind} {n n2 : Int} (hx : opnd L E G x = some (.one (.int k1 n))) (hy : opnd L E G y = some (.one (.int k2 n2))) {k : PV → Heap → Option Nat → Option α} (h : make1 P nb base C H d te (sameOp x y) n n2 k = some z) :
    ∃ v H' kl, k v H' kl = some z ∧ (∀ x, kl = some x → base ≤ x) ∧ (H' = H ∨ C = true) ∧ (holdsG a.tmps G → C = true → Does P nb w F β H a o (okOf kl) v H') := by
  unfold make1 at h
  split at h
  · rename_i e by_ zl he hby hz
    split at h
    case isFalse => cases h
    rename_i hq
    simp only [Bool.and_eq_true, decide_eq_true_eq, Bool.or_eq_true] at hq
    obtain ⟨⟨h1, h2, h3⟩, h4, h5⟩ := hq
    split at h
    · rename_i hC
      split at h
      case isFalse => cases h
      rename_i hr
      simp only [Bool.and_eq_true, decide_eq_true_eq] at hr
      obtain ⟨h6, h7, h8⟩ := hr
      split at h
      · rename_i H' hH
        refine ⟨_, H', _, h, fun x hx => by rw [← Option.some.inj hx]; exact Nat.le_add_right _ _, .inr hC, fun hG _ => ?_⟩
        obtain ⟨i, zv, h16, h17, h18, _⟩ := zero_ok (nb := nb) (w := w) (F := F) (β := β) hz
        have hie : i.size = e := by
          obtain ⟨i', h19, h20⟩ := Option.map_eq_some_iff.1 he
          rw [h16] at h19; obtain rfl := Option.some.inj h19; exact h20
        have hib : i.bytes = by_ := by
          obtain ⟨i', h19, h20⟩ := Option.map_eq_some_iff.1 hby
          rw [h16] at h19; obtain rfl := Option.some.inj h19; exact h20
        have hzs : zv.cells.size = e := by have := h18.length; simp at this; omega
        have ex : a.eval x = .int k1 n := RV_int (opnd_ok hL hE hG hx).1
        have ey : a.eval y = .int k2 n := by
          have ey := RV_int (opnd_ok hL hE hG hy).1
          rcases h5 with h5 | h5
          · cases x with
            | tmp q => cases y with
              | tmp r =>
                have : q = r := by simpa [sameOp] using h5
                subst this
                rw [hx] at hy
                obtain ⟨rfl, rfl⟩ := PS.int.inj (PV.one.inj (Option.some.inj hy))
                exact ey
              | _ => cases h5
            | _ => cases h5
          · rw [ey, h5]
        obtain ⟨w', h21, h22, h23⟩ := run_make_full (P := P) w 0 t te i zv e ht h16 h17 hie k1 k2 n.toNat (by rw [hib]; exact h8) h7 (Nat.zero_le _)
        have hn : ((n.toNat : Nat) : Int) = n := Int.toNat_of_nonneg h6
        rw [hn] at h21
        have hcls : Cls w w' := ⟨h23.os, h23.tape, h23.output, h23.size, fun b hb => h23.block b hb (by simp)⟩
        have hlt : w.heap.size < w'.heap.size := by
          rcases h22.2 with ⟨h, _⟩ | ⟨g, cap, cur, h, _, hh, _⟩
          · cases h
          · cases h
            rcases Nat.lt_or_ge w.heap.size w'.heap.size with q | q
            · exact q
            · rw [Array.getElem?_eq_none q] at hh; cases hh
        obtain ⟨h24, h25⟩ := new_ok (u := .slice (some ⟨w.heap.size, 0, none⟩) n.toNat n.toNat) hI h3 rfl hcls hlt hH (fun hst _ => ⟨_, _, putB_same _ _ _, h22, fun i1 j1 hi hj => by
          have hk : i1 * e + j1 < n.toNat * e := row_lt hi hj
          have hj' : j1 < zl.length := by omega
          obtain ⟨u, h26, h27⟩ := h18.get (List.getElem?_eq_getElem hj')
          refine ⟨u, ?_, ?_⟩
          · have e1 : (i1 * e + j1) % e = j1 := by rw [Nat.mul_comm, Nat.mul_add_mod, Nat.mod_eq_of_lt hj]
            have h28 : zv.cells[j1]? = some u := by simpa using h26
            simp only [madeCells, Array.toList_map, List.getElem?_map, Array.toList_range, List.getElem?_range hk, Option.map_some]
            rw [hzs, e1, Array.getElem!_eq_getD, Array.getD_eq_getD_getElem?, h28]; rfl
          · have e2 : zl.getD j1 .nilp = zl[j1] := by simp [List.getD_eq_getElem?_getD, hj']
            show RF w' F (zl.getD j1 .nilp) u
            rw [e2]
            exact ((RS_of (List.all_eq_true.1 h4 _ (List.getElem_mem hj'))).1 h27).mono hst.read⟩)
        intro Kc Q hk
        refine wp_value (v := .slice (some ⟨w.heap.size, 0, none⟩) n.toNat n.toNat) ?_ (hk w' F _ _ (fun _ => ⟨⟨_, _, _, putB_same _ _ _, rfl⟩, by simpa [okV, okS] using h3⟩) h24 h25)
        obtain ⟨dst, op, ty, pos, after, guard⟩ := o
        simp only at hop
        subst hop
        simp [execOp, ex, ey, h21]
      · cases h
    · rename_i hC
      exact ⟨_, H, _, h, fun x hx => by rw [← Option.some.inj hx]; exact Nat.le_add_right _ _, .inl rfl, fun _ hC' => absurd hC' hC⟩
  · cases h
end sound
end Go.Proofs.YtfemkfodakfcmaaDoor.Ev
