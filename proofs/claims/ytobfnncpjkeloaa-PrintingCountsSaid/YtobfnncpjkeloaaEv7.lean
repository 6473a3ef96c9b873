import Derived.Test.YtobfnncpjkeloaaEv6b
namespace Go.Proofs.Ytobfnncpjkeloaa.Ev
open Go Go.RowKit Go.Proofs.YtobfnncpjkeloaaW.PrintLast
/-! #### regions, code, functions -/
/-- All is known of a guard's slot. -/
def strictE (E : En) : Nat → Nat → Bool
  | 0, _ => false
  | k + 1, s => match findE E s with
    | some (none, .one (.bool _)) => true
    | some (some g, .one (.bool _)) => strictE E k g.1
    | _ => false
def killE (kl : List Nat) (E : En) : En := match kl with
  | [] => E
  | l => keepE (okOf l) E
def finE (n : Nat) (o : Oper) (g : Option (Nat × Bool)) (v : PV) (kl : List Nat) (E : En) : Option En := match o.dst with
  | none => some (killE kl E)
  | some d => if d < n then some ((d, g, v) :: dropE d (killE kl E)) else none
/-- Own rows that an operand names. -/
def osOf (E : En) : Operand → List Nat
  | .tmp t => (match findE E t with
    | some (_, .one (.os o)) => [o]
    | some (_, .agg l) => l.filterMap fun s => match s with | .os o => some o | _ => none
    | _ => [])
  | _ => []
/-- Own rows that an operation gives away: they are only read from then on. Of a function f with D f = fn no row is taken. -/
def preN (D : FuncId → PV) (E : En) : Op → List Nat
  | .call ⟨.value (.func f), xs, _⟩ => (match D f with | .fn _ _ => [] | .agg _ => [] | _ => xs.toList.flatMap (osOf E))
  | .call ⟨.value _, xs, _⟩ => xs.toList.flatMap (osOf E)
  | .slice _ x _ _ _ => osOf E x
  | .buildSlice t _ parts => if famT D t = true then [] else parts.toList.flatMap fun p => osOf E p.2
  | .store te (.tmp t) y => if famT D te = true then [] else (match findE E t with
    | some (_, .one (.rp _ _ _ _)) => osOf E y
    | _ => [])
  | _ => []
def frzN {α : Type} (base : Nat) : List Nat → En → Heap → (En → Heap → Option α) → Option α
  | [], E, H, k => k E H
  | o :: r, E, H, k => match findH H o with
    | some (.rows _ e n row) => if base ≤ o then frzN base r (vwE o (.view n e row) E) (vwH o (.view n e row) H) k else frzN base r E H k
    | _ => frzN base r E H k
def rwp {α : Type} (P : Program) (L : Globs) (M : Orac) (D : FuncId → PV) (ks : List Nat) (nb base n : Nat) (ops : Array Oper) : List Oper → En → Heap → (En → Heap → Option α) → Option α
  | [], E, H, K => K E H
  | o :: r, E, H, K => frzN base (preN D E o.op) E H fun E H => match o.guard with
    | none => o1 P L M D ks nb base E [] true true H o.dst o.op (fun v H' kl => match finE n o none v kl E with | some E' => rwp P L M D ks nb base n ops r E' H' K | none => none)
    | some (j, b) => (match (ops[j]?).bind (·.dst) with
      | some s => if s < n ∧ o.dst ≠ some s then o1 P L M D ks nb base E (gsOf E s b) (condOf E (gsOf E s b)) (strictE E 9 s) H o.dst o.op (fun v H' kl => match finE n o (some (s, b)) v kl E with | some E' => rwp P L M D ks nb base n ops r E' H' K | none => none) else none
      | none => none)
/-- In a region that draws its order: operations that change nothing; calls that are given no object and answer with plain values. -/
def q1 {α : Type} (P : Program) (L : Globs) (M : Orac) (D : FuncId → PV) (E : En) (G : List (Nat × Bool)) (C : Bool) (H : Heap) (o : Op) (k : PV → Option α) : Option α := match o with
  | .call ⟨.value fo, xs, _⟩ => (match opnd L E G fo, xs.toList.mapM (opnd L E G) with
    | some (.fn f caps), some vs => if roD D f = true then (if C = true then cR M f ((vs ++ caps.map PV.one).map (roV H)) H (fun v _ _ => k v) else k (skV (D f))) else if flat (vs ++ caps.map .one) = true then (if C = true then (M 0 f (vs ++ caps.map .one) []).bind (fun r => if r.1 = true then (match r.2.2, plainV r.2.1 with | [], some _ => k r.2.1 | _, _ => none) else none) else k (skV (D f))) else none
    | _, _ => none)
  | o => vq P L E G C H o k
def showH (hid : List Nat) (H : Heap) : Heap := H.filter fun x => hid.contains x.1
def hideH (hid : List Nat) (H : Heap) : Heap := H.filter fun x => !hid.contains x.1
/-- What an operation sees: those of bs may be taken between operations that change memory: they see the own objects of R alone. -/
def hOf (R : Nat → List Nat) (bs : List Nat) (H : Heap) (k : Nat) : Heap := bif bs.contains k then showH (R k) H else H
def qwp {α : Type} (P : Program) (L : Globs) (M : Orac) (D : FuncId → PV) (nb base n : Nat) (ops : Array Oper) (Hf : Nat → Heap) : List (Nat × Oper) → En → (En → Option α) → Option α
  | [], E, K => K E
  | (k, o) :: r, E, K => match o.guard with
    | none => q1 P L M D E [] true (Hf k) o.op (fun v => match finE n o none v [] E with | some E' => qwp P L M D nb base n ops Hf r E' K | none => none)
    | some (j, b) => (match (ops[j]?).bind (·.dst) with
      | some s => if s < n ∧ o.dst ≠ some s then q1 P L M D E (gsOf E s b) (condOf E (gsOf E s b)) (Hf k) o.op (fun v => match finE n o (some (s, b)) v [] E with | some E' => qwp P L M D nb base n ops Hf r E' K | none => none) else none
      | none => none)
/-- Objects that operations read which need not wait for those of l. -/
def hidOf (R : Nat → List Nat) (bs : List Nat) (ops : Array Oper) (l : List (Nat × Oper)) : List Nat := bs.flatMap fun i => if (l.any fun p => !Region.reachB .any ops i ops.size p.1) = true then R i else []
def hokB (nb : Nat) (hid : List Nat) (H H' : Heap) (kl : List Nat) : Bool := kl.all (fun x => !hid.contains x) && (H'.all (fun x => !hid.contains x.1) && (showH hid H).all (fun p => obOk (fun y => okOf kl y && decide (y < nb)) p.2))
/-- An operation that does not touch the objects of hid. -/
def o1H {α : Type} (P : Program) (L : Globs) (M : Orac) (D : FuncId → PV) (ks : List Nat) (nb base : Nat) (hid : List Nat) (E : En) (G : List (Nat × Bool)) (C St : Bool) (H : Heap) (dst : Option Tmp) (o : Op) (k : PV → Heap → List Nat → Option α) : Option α := match hid with
  | [] => o1 P L M D ks nb base E G C St H dst o k
  | hid => o1 P L M D ks nb base E G C St (hideH hid H) dst o (fun v H' kl => if hokB nb hid H H' kl = true then k v (ordH H (H' ++ showH hid H)) kl else none)
def stepH {α : Type} (P : Program) (L : Globs) (M : Orac) (D : FuncId → PV) (ks : List Nat) (nb base n : Nat) (ops : Array Oper) (hid : List Nat) (o : Oper) (E : En) (H : Heap) (K : En → Heap → Option α) : Option α := if (preN D E o.op).all (fun x => !hid.contains x) = true then frzN base (preN D E o.op) E H fun E H => (match o.guard with
    | none => o1H P L M D ks nb base hid E [] true true H o.dst o.op (fun v H' kl => match finE n o none v kl E with | some E' => K E' H' | none => none)
    | some (j, b) => (match (ops[j]?).bind (·.dst) with
      | some s => if s < n ∧ o.dst ≠ some s then o1H P L M D ks nb base hid E (gsOf E s b) (condOf E (gsOf E s b)) (strictE E 9 s) H o.dst o.op (fun v H' kl => match finE n o (some (s, b)) v kl E with | some E' => K E' H' | none => none) else none
      | none => none)) else none
def rwpH {α : Type} (P : Program) (L : Globs) (M : Orac) (D : FuncId → PV) (ks : List Nat) (nb base n : Nat) (ops : Array Oper) (R : Nat → List Nat) (bs : List Nat) : List (Nat × Oper) → En → Heap → (En → Heap → Option α) → Option α
  | [], E, H, K => K E H
  | p :: r, E, H, K => stepH P L M D ks nb base n ops (hidOf R bs ops (p :: r)) p.2 E H (fun E' H' => rwpH P L M D ks nb base n ops R bs r E' H' K)
/-- Slots on which slots depend. -/
def depT (ops : Array Oper) : Nat → List Nat → List Nat
  | 0, ts => ts
  | f + 1, ts => ts ++ depT ops f (ts.flatMap fun t => ops.toList.flatMap fun o => if o.dst == some t then o.looksAt ops else [])
def nmeH (H : Heap) (l : List Nat) : List Nat := l ++ l.flatMap fun o => match findH H o with
  | some (.box c) => c.flatMap nmS
  | _ => []
def readsM : Op → Bool
  | .load _ _ => true
  | .indexAddr _ _ _ => true
  | .slice _ _ _ _ _ => true
  | .call _ => true
  | _ => false
/-- Objects that an operation may read. -/
def rdOf (E : En) (H : Heap) (ops : Array Oper) (i : Nat) : List Nat := match ops[i]? with
  | some o => if readsM o.op = true then addL [] (nmeH H (nmeH H ((depT ops 6 (o.looksAt ops)).flatMap fun t => match findE E t with | some (_, v) => nmV v | none => []))) else []
  | none => []
/-- What is kept of the slots from one round of a loop to the next: those that were there ahead of it. -/
def trimE (E E' : En) : En := E.filterMap fun x => match findE E' x.1 with
  | some (none, v) => some (x.1, none, v)
  | _ => none
/-- Objects that were there, and those that the slots or these objects' cells name. -/
def namedE (E : En) (o : Nat) : Bool := !E.all fun y => okV (fun z => z != o) y.2.2
def trimH (H H' : Heap) (E : En) : Heap := H'.filter fun x => H.any (fun y => y.1 == x.1) || (namedE E x.1 || H'.any fun y => (H.any (fun z => z.1 == y.1) || namedE E y.1) && !obOk (fun z => z != x.1) y.2)
def rounds {α : Type} (body : En → Heap → (Exit → En → Heap → Option α) → Option α) (K : Exit → En → Heap → Option α) : Nat → En → Heap → Option α
  | 0, _, _ => none
  | m + 1, E, H => body E H (fun e E' H' => match e with | .normal => rounds body K m (trimE E E') (trimH H H' (trimE E E')) | e => K e E' H')
def isAlloc : Op → Bool
  | .alloc _ => true
  | _ => false
def plainAlloc (o : Oper) : Bool := freshOp o.op && o.guard.isNone
/-- A call without a result. -/
def voidCall (o : Oper) : Bool := o.type == 0 && (match o.op with | .call ⟨.value _, _, _⟩ => true | _ => false)
def loudOp : Op → Bool
  | .alloc _ => true
  | .box _ _ => true
  | .store _ _ _ => true
  | .buildSlice _ _ _ => true
  | .makeSlice _ _ _ => true
  | .makeMap _ _ => true
  | .mapUpdate _ _ _ _ => true
  | .insert _ _ _ _ => true
  | .call ⟨.builtin .append, _, _⟩ => true
  | _ => false
/-- A call of f with D f = one junk is taken in its place among the operations that change memory (its answer need not be plain). -/
def lateCall (D : FuncId → PV) (o : Oper) : Bool := match o.op with
  | .call ⟨.value (.func f), _, _⟩ => (match D f with | .one .junk => true | _ => false)
  | _ => false
/-- Operations that change memory, and those that stand behind one. -/
def lateR (D : FuncId → PV) : List Oper → Nat → List Nat → List Nat
  | [], _, acc => acc
  | o :: r, i, acc => lateR D r (i + 1) (if (loudOp o.op || voidCall o || lateCall D o || o.after.any (fun e => Region.binds .any e && acc.contains e.on)) = true then i :: acc else acc)
/-- The operations that are taken first; the others. -/
def qsOf (D : FuncId → PV) (ops : Array Oper) : List Nat := let l := lateR D ops.toList 0 []; (List.range ops.size).filter fun i => !l.contains i
def csOf (D : FuncId → PV) (ops : Array Oper) : List Nat := let l := lateR D ops.toList 0 []; (List.range ops.size).filter fun i => l.contains i
def dsOf (D : FuncId → PV) (ops : Array Oper) : List Nat := (csOf D ops).filter fun i => match ops[i]? with | some o => !plainAlloc o | none => true
def bsOf (D : FuncId → PV) (ops : Array Oper) : List Nat := match dsOf D ops with
  | [] => []
  | ds => (qsOf D ops).filter fun i => !Region.lastB .any ops (Array.replicate ops.size false) ds i
/-- New variables that may be made in any order: number, slot, type. -/
def alOf (o : Oper) : Option (Nat × TypeId) := match o.dst, o.op, o.guard with
  | some d, .alloc t, none => some (d, t)
  | _, _, _ => none
def asOf (D : FuncId → PV) (ops : Array Oper) : List Nat := let l := lateR D ops.toList 0 []; (csOf D ops).filter fun i => match ops[i]? with
  | some o => (alOf o).isSome && o.after.all (fun e => !(Region.binds .any e && l.contains e.on))
  | none => false
def crOf (D : FuncId → PV) (ops : Array Oper) : List Nat := (csOf D ops).filter fun i => !(asOf D ops).contains i
def alL (ops : Array Oper) (as : List Nat) : List (Nat × Nat × TypeId) := as.filterMap fun k => ((ops[k]?).bind alOf).map fun x => (k, x)
def boxA (P : Program) (base : Nat) (q : Nat × Nat × TypeId) : Nat × OB := (base + q.2.1, .box ((zeroIn P q.2.2).getD []))
def slotA (base : Nat) (q : Nat × Nat × TypeId) : Nat × Option (Nat × Bool) × PV := (q.2.1, none, .one (.ptr (base + q.2.1) 0))
def nmA (base : Nat) (al : List (Nat × Nat × TypeId)) (o : Nat) : Bool := al.any fun q => base + q.2.1 == o
def preE (base : Nat) (al : List (Nat × Nat × TypeId)) (E : En) : En := E.filter fun x => (al.all fun q => x.1 != q.2.1 && (match x.2.1 with | some (s, _) => s != q.2.1 | none => true)) && okV (fun y => !nmA base al y) x.2.2
def preH (base : Nat) (al : List (Nat × Nat × TypeId)) (H : Heap) : Heap := H.filter fun x => !nmA base al x.1
def okA (P : Program) (nb base n : Nat) (al : List (Nat × Nat × TypeId)) (H : Heap) : Bool := (al.all fun q => decide (q.2.1 < n) && (decide (base + q.2.1 < nb) && (match zeroIn P q.2.2 with | some z => z.all noPtr | none => false))) && ((preH base al H).all (fun x => obOk (fun y => !nmA base al y) x.2) && al.all fun q => al.all fun q' => q == q' || (q.1 != q'.1 && q.2.1 != q'.2.1))
def awp {α : Type} (P : Program) (nb base n : Nat) (ops : Array Oper) (as : List Nat) (E : En) (H : Heap) (K : En → Heap → Option α) : Option α := match as with
  | [] => K E H
  | as => if ((alL ops as).map (·.1) == as && okA P nb base n (alL ops as) H) = true then K ((alL ops as).map (slotA base) ++ preE base (alL ops as) E) ((alL ops as).map (boxA P base) ++ preH base (alL ops as) H) else none
/-- Slots that are read in a region that has not written them. -/
def expoR (ops : Array Oper) : List Oper → List Nat → List Nat → List Nat
  | [], _, acc => acc
  | o :: r, w, acc => expoR ops r (match o.dst with | some d => d :: w | none => w) ((o.looksAt ops).filter (fun t => !w.contains t && !acc.contains t) ++ acc)
def expoC : Code → List Nat → List Nat
  | .region _ ops _, acc => expoR ops ops.toList [] acc
  | .cond c x y, acc => expoC y (expoC x (match c with | .tmp t => t :: acc | _ => acc))
  | .seq x y, acc => expoC y (expoC x acc)
  | .block _ c, acc => expoC c acc
  | .loop c, acc => expoC c acc
  | _, acc => acc
def liveF (fn : Func) : Nat → Bool := fun t => (expoC (fn.body.getD .skip) (fn.results.toList.filterMap fun r => match r with | .tmp t => some t | .cell t _ => some t)).contains t
def keepT (kp : Nat → Bool) (E : En) : En := E.filter fun x => kp x.1
/-- A test's slot is of no use behind it. -/
def dropC (c : Operand) (E : En) : En := match c with
  | .tmp t => E.filter fun x => x.1 != t
  | _ => E
/-- kp: slots that are of use behind a region. -/
def cwp {α : Type} (P : Program) (L : Globs) (M : Orac) (D : FuncId → PV) (kp : Nat → Bool) (ks : List Nat) (nb base n fl : Nat) : Code → En → Heap → (Exit → En → Heap → Option α) → Option α
  | .region _ ops false, E, H, K => rwp P L M D ks nb base n ops ops.toList E H (fun E' H' => K .normal (keepT kp E') H')
  | .region _ ops true, E, H, K => if drawB ops (dsOf D ops) (bsOf D ops) (qsOf D ops) (asOf D ops) (crOf D ops) = true then frzN base (ops.toList.flatMap fun o => preN D E o.op) E H (fun E H => if (hidOf (rdOf E H ops) (bsOf D ops) ops (pairsOf ops (crOf D ops))).all (fun x => !nmA base (alL ops (asOf D ops)) x) = true then qwp P L M D nb base n ops (hOf (rdOf E H ops) (bsOf D ops) H) (pairsOf ops (qsOf D ops)) E (fun E' => awp P nb base n ops (asOf D ops) E' H (fun E' H' => rwpH P L M D ks nb base n ops (rdOf E H ops) (bsOf D ops) (pairsOf ops (crOf D ops)) E' H' (fun E'' H'' => K .normal (keepT kp E'') H''))) else none) else none
  | .cond c x y, E, H, K => (match opnd L E [] c with | some (.one (.bool b)) => (if b = true then cwp P L M D kp ks nb base n fl x (dropC c E) H K else cwp P L M D kp ks nb base n fl y (dropC c E) H K) | _ => none)
  | .seq x y, E, H, K => cwp P L M D kp ks nb base n fl x E H (fun e E' H' => match e with | .normal => cwp P L M D kp ks nb base n fl y E' H' K | e => K e E' H')
  | .block id c, E, H, K => cwp P L M D kp ks nb base n fl c E H (fun e E' H' => match e with | .exit i => if i = id then K .normal E' H' else K (.exit i) E' H' | e => K e E' H')
  | .loop c, E, H, K => rounds (fun E' H' K' => cwp P L M D kp ks nb base n fl c E' H' K') K fl E H
  | .skip, E, H, K => K .normal E H
  | .ret, E, H, K => K .ret E H
  | .exit id, E, H, K => K (.exit id) E H
  | _, _, _, _ => none
section sound
variable {nb base n : Nat} {P : Program} {w : World} {F : Nat → Prop} {β : Blocks} {E : En} {G : List (Nat × Bool)} {L : Globs} {H : Heap} {a : Act} {α : Type} {z : α} {M : Orac} {D : FuncId → PV} {ks : List Nat}
theorem strict_ok {T : Array Value} (hE : okE nb w F β T E) : ∀ (k s : Nat) (b : Bool), strictE E (k + 1) s = true → condOf E ((s, b) :: upE E k s) = true → holdsG T ((s, b) :: upE E k s) := by
  intro k
  induction k with
  | zero =>
    intro s b hs hc
    unfold strictE at hs
    unfold condOf at hc
    rw [andR_iff] at hc
    split at hs
    · rename_i sb hf
      rw [hf] at hc
      intro g hg
      rcases List.mem_cons.1 hg with rfl | hg
      · have h1 := RV_bool (hE _ (find_mem hf)).2.1
        simp only at h1 hc ⊢
        rw [h1]
        have : sb = b := isB_iff.1 hc.1
        rw [this]
      · cases hg
    · unfold strictE at hs; cases hs
    · cases hs
  | succ k ih =>
    intro s b hs hc
    unfold strictE at hs
    unfold condOf at hc
    rw [andR_iff] at hc
    split at hs
    · rename_i sb hf
      have h0 : upE E (k + 1) s = [] := by unfold upE; rw [hf]
      rw [h0]
      rw [hf] at hc
      intro g hg
      rcases List.mem_cons.1 hg with rfl | hg
      · have h1 := RV_bool (hE _ (find_mem hf)).2.1
        simp only at h1 hc ⊢
        rw [h1]
        have : sb = b := isB_iff.1 hc.1
        rw [this]
      · cases hg
    · rename_i g sb hf
      have h0 : upE E (k + 1) s = g :: upE E k g.1 := by
        conv => lhs; unfold upE
        rw [hf]
      rw [h0] at hc ⊢
      have h2 := ih g.1 g.2 hs hc.2
      intro x hx
      rcases List.mem_cons.1 hx with rfl | hx
      · have h1 := (hE _ (find_mem hf)).2.1 (h2 g (List.mem_cons_self ..))
        have h3 := RV_bool h1.1
        rw [hf] at hc
        simp only at h3 hc ⊢
        rw [h3]
        have : sb = b := isB_iff.1 hc.1
        rw [this]
      · exact h2 x hx
    · cases hs
theorem put_get {d : Nat} {v : Value} (h : d < a.tmps.size) : (a.put (some d) v).tmps.getD d undef = v := by
  simp [Act.put, Array.getD_eq_getD_getElem?, h]
theorem put_far {d s : Nat} {v : Value} (h : s ≠ d) : (a.put (some d) v).tmps.getD s undef = a.tmps.getD s undef := by
  simp only [Act.put, Array.getD_eq_getD_getElem?, Array.getElem?_setIfInBounds]
  rw [if_neg (fun e => h e.symm)]
theorem yielded_iff {ops : Array Oper} {T : Array Value} {j s : Nat} {b : Bool} (hj : (ops[j]?).bind (·.dst) = some s) (hs : s < T.size) : (yielded ops T j == some b) = true ↔ T.getD s undef = .bool b := by
  unfold yielded
  rw [hj]
  simp only [Option.bind_some, Array.getD_eq_getD_getElem?, Array.getElem?_eq_getElem hs, Option.getD_some]
  cases T[s] <;> simp
theorem kill_all {kl : List Nat} {T : Array Value} {w' : World} {F' : Nat → Prop} {β' : Blocks} (hE : okE nb w F β T E) (hr : Step (fun x => okOf kl x && decide (x < nb)) w F β w' F' β') : okE nb w' F' β' T (killE kl E) := by
  unfold killE
  split
  · exact step_all hE (hr.weaken (fun x hx => by simp only [okOf, List.contains_nil, Bool.not_false, Bool.true_and]; exact hx))
  · intro y hy
    have hy2 := (List.mem_filter.1 hy)
    obtain ⟨h3, h5⟩ := hE y hy2.1
    refine ⟨h3, ?_⟩
    obtain ⟨d', g', v'⟩ := y
    cases g' with
    | none => exact ⟨RV.step hr (okV_and hy2.2 h5.2) h5.1, h5.2⟩
    | some q => exact ⟨fun c => ⟨RV.step hr (okV_and hy2.2 (h5.1 c).2) (h5.1 c).1, (h5.1 c).2⟩, h5.2⟩
theorem kill_sub {kl : List Nat} {T : Array Value} (hE : okE nb w F β T E) : okE nb w F β T (killE kl E) := by
  unfold killE
  split
  · exact hE
  · exact fun y hy => hE y (List.mem_filter.1 hy).1
theorem low_ok1 (hnb : base ≤ nb) {kl : List Nat} (hkl : ∀ x ∈ kl, lowK base ks x = false) : ∀ x, lowK base ks x = true → (okOf kl x && decide (x < nb)) = true := fun x hx => by
  have h1 : x < base := by simp only [lowK, Bool.and_eq_true, decide_eq_true_eq] at hx; exact hx.1
  simp only [okOf, Bool.and_eq_true, Bool.not_eq_true', List.contains_eq_mem, decide_eq_false_iff_not, decide_eq_true_eq]
  refine ⟨fun hm => ?_, by omega⟩
  rw [hkl x hm] at hx
  cases hx
theorem low_lt {x : Nat} (hx : lowK base ks x = true) : x < base := by simp only [lowK, Bool.and_eq_true, decide_eq_true_eq] at hx; exact hx.1
/-- Behind an operation that was carried out. -/
theorem fin_ok {o : Oper} {g : Option (Nat × Bool)} {v : PV} {kl : List Nat} {E' : En} {w' : World} {F' : Nat → Prop} {β' : Blocks} {u : Value} {H' : Heap} (hE : okE nb w F β a.tmps E) (hn : a.tmps.size = n) (hr : Run (fun x => okOf kl x && decide (x < nb)) w F β H w' F' β' H') (hu : o.dst ≠ none → RN nb w' F' β' v u)
    (hg : ∀ s b, g = some (s, b) → o.dst ≠ some s ∧ a.tmps.getD s undef = .bool b) (h : finE n o g v kl E = some E') : okE nb w' F' β' (a.put o.dst u).tmps E' := by
  have hE' := kill_all hE hr.step
  unfold finE at h
  split at h
  · rename_i hd
    obtain rfl := Option.some.inj h
    rw [hd]
    exact hE'
  · rename_i d hd
    split at h
    case isFalse => cases h
    rename_i hdn
    obtain rfl := Option.some.inj h
    rw [hd] at hu hg ⊢
    have hu' := hu (by simp)
    intro x hx
    rcases List.mem_cons.1 hx with rfl | hx
    · refine ⟨by simp [Act.put, hn]; exact hdn, ?_⟩
      cases g with
      | none => simp only; rw [put_get (by rw [hn]; exact hdn)]; exact hu'
      | some q =>
        obtain ⟨s, b⟩ := q
        obtain ⟨h1, h2⟩ := hg s b rfl
        have h3 : s ≠ d := fun e => h1 (by rw [e])
        refine ⟨fun _ => by rw [put_get (by rw [hn]; exact hdn)]; exact hu', fun hne => absurd ?_ hne⟩
        rw [put_far h3]; exact h2
    · exact drop_ok hE' x hx
/-- An operation that was passed over. -/
theorem skip_ok {o : Oper} {s : Nat} {b : Bool} {v : PV} {kl : List Nat} {E' : En} (hE : okE nb w F β a.tmps E) (hn : a.tmps.size = n) (hs : o.dst ≠ some s) (hb : a.tmps.getD s undef ≠ .bool b) (h : finE n o (some (s, b)) v kl E = some E') : okE nb w F β (a.put o.dst undef).tmps E' := by
  unfold finE at h
  split at h
  · rename_i hd
    obtain rfl := Option.some.inj h
    rw [hd]; exact kill_sub hE
  · rename_i d hd
    split at h
    case isFalse => cases h
    rename_i hdn
    obtain rfl := Option.some.inj h
    rw [hd] at hs ⊢
    have h3 : s ≠ d := fun e => hs (by rw [e])
    intro x hx
    rcases List.mem_cons.1 hx with rfl | hx
    · refine ⟨by simp [Act.put, hn]; exact hdn, fun he => ?_, fun _ => put_get (by rw [hn]; exact hdn)⟩
      rw [put_far h3] at he
      exact absurd he hb
    · exact drop_ok (kill_sub hE) x hx
theorem frzN_ok' {T : Array Value} : ∀ (l : List Nat) (E : En) (H : Heap) (F : Nat → Prop) (β : Blocks) (k : En → Heap → Option α), frzN base l E H k = some z → okG w F L → Inv nb w F β H → okE nb w F β T E → ∃ (F' : Nat → Prop) (β' : Blocks) (E' : En) (H' : Heap), k E' H' = some z ∧ okG w F' L ∧ Inv nb w F' β' H' ∧ okE nb w F' β' T E' ∧ Run (fun x => decide (x < base) || !l.contains x) w F β H w F' β' H' := by
  intro l
  induction l with
  | nil => intro E H F β k h hL hI hE; exact ⟨F, β, E, H, h, hL, hI, hE, Run.refl _ _ _ _ _⟩
  | cons o r ih =>
    intro E H F β k h hL hI hE
    unfold frzN at h
    split at h
    · rename_i t e n row hf
      split at h
      · rename_i hb
        have hm := findH_mem hf
        have hO := (hI.obj o _ hm).2
        have hs : ∀ u, β o = some u → hdrV u = true → RF w (moreF o β F) (.view n e row) u := fun u h1 _ => by
          obtain ⟨A, c, rfl, hnc, h3⟩ := row_len hO h1
          by_cases h0 : 0 < n
          · obtain ⟨b, rfl⟩ := h3 h0
            have hc : ∀ i j, i < n → j < e → w.cell? ⟨b, 0 + (i * e + j), none⟩ = some ((w.cell? ⟨b, 0 + (i * e + j), none⟩).getD undef) ∧ RF w (moreF o β F) (row i j) ((w.cell? ⟨b, 0 + (i * e + j), none⟩).getD undef) := fun i j hi hj => by
              obtain ⟨v, h4, h5⟩ := row_cell hO h1 hi hj
              rw [Nat.zero_add, h4]
              exact ⟨rfl, h5.mono (off_step o w F β).read⟩
            exact RF.view n e row b 0 c (fun i j => (w.cell? ⟨b, 0 + (i * e + j), none⟩).getD undef) h0 hnc (.inr ⟨_, h1, rfl⟩) (fun i j hi hj => (hc i j hi hj).1) (fun i j hi hj => (hc i j hi hj).2)
          · obtain rfl : n = 0 := by omega
            exact RF.view0 e row A c
        obtain ⟨h5, h6⟩ := frz_ok (s' := .view n e row) hI hm rfl hs
        obtain ⟨F', β', E', H', q1, q2, q3, q4, q5⟩ := ih _ _ _ _ k h (hL.step h6.step) h5 (frz_slots rfl hs hE)
        exact ⟨F', β', E', H', q1, q2, q3, q4, (h6.weaken (fun x hx => by
          simp only [List.contains_cons, Bool.not_or, Bool.or_eq_true, decide_eq_true_eq, Bool.and_eq_true] at hx
          rcases hx with hx | hx
          · simp; omega
          · exact hx.1)).trans (q5.weaken (fun x hx => by
          simp only [List.contains_cons, Bool.not_or, Bool.or_eq_true, decide_eq_true_eq, Bool.and_eq_true] at hx ⊢
          exact hx.imp id (·.2)))⟩
      · obtain ⟨F', β', E', H', q1, q2, q3, q4, q5⟩ := ih E H F β k h hL hI hE
        exact ⟨F', β', E', H', q1, q2, q3, q4, q5.weaken (fun x hx => by
          simp only [List.contains_cons, Bool.not_or, Bool.or_eq_true, decide_eq_true_eq, Bool.and_eq_true] at hx ⊢
          exact hx.imp id (·.2))⟩
    · obtain ⟨F', β', E', H', q1, q2, q3, q4, q5⟩ := ih E H F β k h hL hI hE
      exact ⟨F', β', E', H', q1, q2, q3, q4, q5.weaken (fun x hx => by
        simp only [List.contains_cons, Bool.not_or, Bool.or_eq_true, decide_eq_true_eq, Bool.and_eq_true] at hx ⊢
        exact hx.imp id (·.2))⟩
theorem frzN_ok {T : Array Value} (l : List Nat) (E : En) (H : Heap) (F : Nat → Prop) (β : Blocks) (k : En → Heap → Option α) (h : frzN base l E H k = some z) (hL : okG w F L) (hI : Inv nb w F β H) (hE : okE nb w F β T E) : ∃ (F' : Nat → Prop) (β' : Blocks) (E' : En) (H' : Heap), k E' H' = some z ∧ okG w F' L ∧ Inv nb w F' β' H' ∧ okE nb w F' β' T E' ∧ Run (lowK base ks) w F β H w F' β' H' := by
  obtain ⟨F', β', E', H', q1, q2, q3, q4, q5⟩ := frzN_ok' l E H F β k h hL hI hE
  exact ⟨F', β', E', H', q1, q2, q3, q4, q5.weaken (fun x hx => by rw [Bool.or_eq_true, decide_eq_true_eq]; exact .inl (low_lt hx))⟩
theorem rwp_ok (hM : Sound P L M) (hnb : base ≤ nb) {ops : Array Oper} {Q : Exit → Act → World → Prop} : ∀ (l : List Oper) (E : En) (H : Heap) (a : Act) (w : World) (F : Nat → Prop) (β : Blocks) (K : En → Heap → Option α), rwp P L M D ks nb base n ops l E H K = some z → okG w F L → Inv nb w F β H → okE nb w F β a.tmps E → a.tmps.size = n →
    (∀ (a' : Act) (w' : World) (F' : Nat → Prop) (β' : Blocks) (E' : En) (H' : Heap), a'.tmps.size = n → a'.defers = a.defers → okG w' F' L → Inv nb w' F' β' H' → okE nb w' F' β' a'.tmps E' → Run (lowK base ks) w F β H w' F' β' H' → K E' H' = some z → Q .normal a' w') → wpList P ops Q l a w := by
  intro l
  induction l with
  | nil => intro E H a w F β K h hL hI hE hn hQ; exact wpList_nil (hQ a w F β E H hn rfl hL hI hE (Run.refl _ _ _ _ _) h)
  | cons o r ih =>
    intro E0 H0 a w F0 β0 K h hL0 hI0 hE0 hn hQ0
    unfold rwp at h
    obtain ⟨F, β, E, H, h, hL, hI, hE, hR⟩ := frzN_ok _ E0 H0 F0 β0 _ h hL0 hI0 hE0
    have hQ : ∀ (a' : Act) (w' : World) (F' : Nat → Prop) (β' : Blocks) (E' : En) (H' : Heap), a'.tmps.size = n → a'.defers = a.defers → okG w' F' L → Inv nb w' F' β' H' → okE nb w' F' β' a'.tmps E' → Run (lowK base ks) w F β H w' F' β' H' → K E' H' = some z → Q .normal a' w' := fun a' w' F' β' E' H' q1 q2 q3 q4 q5 q6 q7 => hQ0 a' w' F' β' E' H' q1 q2 q3 q4 q5 (hR.trans q6) q7
    clear hQ0 hE0 hI0 hL0 hR
    have hput : ∀ (u : Value), (a.put o.dst u).tmps.size = n := fun u => by cases hd : o.dst <;> simp [Act.put, hn]
    have hdef : ∀ (u : Value), (a.put o.dst u).defers = a.defers := fun u => by cases hd : o.dst <;> rfl
    have hok : ∀ {kl : List Nat}, (∀ x ∈ kl, lowK base ks x = false) → ∀ x, lowK base ks x = true → (okOf kl x && decide (x < nb)) = true := fun {kl} hkl => low_ok1 hnb hkl
    refine wpList_step (fun Kc hKc => ?_)
    split at h
    · rename_i hg
      rw [if_pos (by simp [Region.wanted, hg])]
      obtain ⟨v, H', kl, h1, hkl, _, h3⟩ := o1_ok hM hL hI hE h
      refine h3 (fun g hg => by cases hg) rfl Kc Q (fun w' F' β' u hu hI' hr _ => hKc _ _ ?_)
      split at h1
      · rename_i E' hf
        refine ih E' H' _ w' F' β' K h1 (hL.step hr.step) hI' (fin_ok hE hn hr hu (fun s b e => by cases e) hf) (hput u) (fun a' w'' F'' β'' E'' H'' q1 q2 q3 q4 q5 q6 q7 => hQ a' w'' F'' β'' E'' H'' q1 (q2.trans (hdef u)) q3 q4 q5 ((hr.weaken (hok hkl)).trans q6) q7)
      · cases h1
    · rename_i j b hg
      split at h
      · rename_i s hs
        split at h
        case isFalse => cases h
        rename_i hss
        obtain ⟨v, H', kl, h1, hkl, h2, h3⟩ := o1_ok hM hL hI hE h
        split at h1
        · rename_i E' hf
          by_cases hw : a.tmps.getD s undef = .bool b
          · rw [if_pos (by simp only [Region.wanted, hg]; exact (yielded_iff hs (by rw [hn]; exact hss.1)).2 hw)]
            have hG := gs_ok hE hw
            refine h3 hG (cond_ok hE _ hG) Kc Q (fun w' F' β' u hu hI' hr _ => hKc _ _ ?_)
            refine ih E' H' _ w' F' β' K h1 (hL.step hr.step) hI' (fin_ok hE hn hr hu (fun s' b' e => by obtain ⟨rfl, rfl⟩ := Prod.mk.inj (Option.some.inj e); exact ⟨hss.2, hw⟩) hf) (hput u) (fun a' w'' F'' β'' E'' H'' q1 q2 q3 q4 q5 q6 q7 => hQ a' w'' F'' β'' E'' H'' q1 (q2.trans (hdef u)) q3 q4 q5 ((hr.weaken (hok hkl)).trans q6) q7)
          · rw [if_neg (by simp only [Region.wanted, hg]; exact fun e => hw ((yielded_iff hs (by rw [hn]; exact hss.1)).1 e))]
            have hHH : H' = H := by
              rcases h2 with h2 | ⟨h2, h4⟩
              · exact h2
              · exact absurd (strict_ok hE 8 s b h2 h4 (s, b) (List.mem_cons_self ..)) hw
            subst hHH
            refine hKc _ _ ?_
            refine ih E' H' _ w F β K h1 hL hI (skip_ok hE hn hss.2 hw hf) (hput _) (fun a' w'' F'' β'' E'' H'' q1 q2 q3 q4 q5 q6 q7 => hQ a' w'' F'' β'' E'' H'' q1 (q2.trans (hdef _)) q3 q4 q5 q6 q7)
        · cases h1
      · cases h
end sound
end Go.Proofs.Ytobfnncpjkeloaa.Ev
