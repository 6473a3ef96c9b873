import Derived.Test.YtobfnncpjkeloaaEvF
namespace Go.Proofs.Ytobfnncpjkeloaa.Ev
open Go Go.RowKit Go.Proofs.YtobfnncpjkeloaaW.PrintLast
/-! #### any operation -/
/-- The Bool: what must hold of the arguments. -/
abbrev Orac := Nat → FuncId → List PV → Heap → Option (Bool × PV × Heap)
/-- A function with a body of its own. -/
def goesTo (P : Program) (f : FuncId) : Prop := ∃ fn, P.funcs[f]? = some fn ∧ (fn.name == "runtime.NumGoroutine") = false ∧ fn.body.isSome = true
/-- What an oracle answers is what the machine's call answers. -/
def isRows (H : Heap) (o : Nat) : Bool := H.any fun p => p.1 == o && (match p.2 with | .rows .. => true | .out .. => true | _ => false)
/-- Rows that boxes name: who is given the boxes may append to these rows. -/
def ksOf (H : Heap) : List Nat := H.flatMap fun p => match p.2 with
  | .box l => l.filterMap fun s => match s with | .os o => if isRows H o = true then some o else none | _ => none
  | .out _ _ b _ => [b]
  | _ => []
/-- Objects that stay as they are named. -/
def lowK (base : Nat) (ks : List Nat) (x : Nat) : Bool := decide (x < base) && !ks.contains x
def Sound (P : Program) (L : Globs) (M : Orac) : Prop := ∀ nb f vs H v H', M nb f vs H = some (true, v, H') → ∀ (w : World) (F : Nat → Prop) (β : Blocks) (us : List Value), okG w F L → Inv nb w F β H → All2 (RN nb w F β) vs us →
  goesTo P f ∧ Calls P f us.toArray w (fun e w' => ∃ (u : Value) (F' : Nat → Prop) (β' : Blocks), e = .returned u ∧ RN (nb + 1) w' F' β' v u ∧ Inv (nb + 1) w' F' β' H' ∧ Run (lowK nb (ksOf H)) w F β H w' F' β' H')
def flat (vs : List PV) : Bool := vs.all (okV fun _ => false)
def nmOf (nb base : Nat) : Option Tmp → Nat
  | some d => base + d
  | none => nb - 1
/-- What a call answers: a row that it hands back has the name nb; it gets the name of the slot. -/
def ad1 {α : Type} (nb base : Nat) (dst : Option Tmp) (v : PV) (H1 : Heap) (k : PV → Heap → List Nat → Option α) : Option α := match H1 with
  | (o, .rows t e n row) :: H2 => if o = nb then (if (decide (base ≤ nmOf nb base dst) && (decide (nmOf nb base dst < nb) && okV (fun z => z != nmOf nb base dst) v)) = true then (match newR nb H2 (nmOf nb base dst) (.rows t e n row) with | some H' => k (rnV nb (nmOf nb base dst) v) H' [nmOf nb base dst] | none => none) else none)
      else if (okV (fun z => decide (z < nb)) v && lowB nb ((o, .rows t e n row) :: H2)) = true then k v ((o, .rows t e n row) :: H2) [] else none
  | H1 => if (okV (fun z => decide (z < nb)) v && lowB nb H1) = true then k v H1 [] else none
/-- What comes back of a call that was given what its arguments reach. -/
def cF3 {α : Type} (ks : List Nat) (nb base nm : Nat) (H : Heap) (L ks0 : List Nat) (v : PV) (H1 : Heap) (k : PV → Heap → List Nat → Option α) : Option α :=
  if ((!hasN H1 L.length || (decide (base ≤ nm) && (decide (nm < nb) && !L.contains nm))) && (H1.all (fun p => obOk (goodN L.length (fun j => !ks0.contains j) H1) p.2) && (okV (goodN L.length (fun j => !ks0.contains j) H1) v && (((ks0.map (bkL L nm)).all fun x => !lowK base ks x) &&
      (restH H L (hasN H1 L.length) nm).all (fun p => obOk (fun z => !(L.contains z && !!ks0.contains (ixL L z)) && !(hasN H1 L.length && z == nm)) p.2))))) = true then
    k (mpV (bkL L nm) v) (ordH H (backH L nm H1 ++ restH H L (hasN H1 L.length) nm)) (ks0.map (bkL L nm) ++ (bif hasN H1 L.length then [nm] else [])) else none
def cF2 {α : Type} (M : Orac) (ks : List Nat) (nb base nm : Nat) (f : FuncId) (vs : List PV) (H : Heap) (L : List Nat) (H0 : Heap) (k : PV → Heap → List Nat → Option α) : Option α :=
  if (nodupB L && vs.all (okV fun z => L.contains z)) = true then (M L.length f (vs.map (mpV (ixL L))) H0).bind (fun r => if r.1 = true then cF3 ks nb base nm H L (ksOf H0) r.2.1 r.2.2 k else none) else none
def cF {α : Type} (M : Orac) (ks : List Nat) (nb base : Nat) (dst : Option Tmp) (f : FuncId) (vs : List PV) (H : Heap) (k : PV → Heap → List Nat → Option α) : Option α := match subH H (reach H vs) (reach H vs) with
  | some H0 => cF2 M ks nb base (nmOf nb base dst) f vs H (reach H vs) H0 k
  | none => none
/-- A call: what names no object is given none; else what the arguments reach, under the names 0, 1, .. -/
def c1 {α : Type} (M : Orac) (ks : List Nat) (nb base : Nat) (dst : Option Tmp) (f : FuncId) (vs : List PV) (H : Heap) (k : PV → Heap → List Nat → Option α) : Option α :=
  if flat vs = true then (M 0 f vs []).bind (fun r => if r.1 = true then (match r.2.2 with
    | [] => if okV (fun _ => false) r.2.1 = true then k r.2.1 H [] else none
    | [(o, .rows t e n row)] => if o = 0 then ad1 nb base dst (rnV 0 nb r.2.1) ((nb, .rows t e n row) :: H) k else none
    | _ => none) else none) else cF M ks nb base dst f vs H k
def bytesIn (P : Program) (t : TypeId) : Option Nat := (P.info? t).map (·.bytes)
/-- The row that is appended: its length, its cells. -/
def srcOf (H : Heap) (e : Nat) : PV → Option (Nat × (Nat → Nat → PS))
  | .one .nils => some (0, fun _ _ => .nilp)
  | .one (.view m e' new) => if e' = e then some (m, new) else none
  | .one (.os o) => (match findH H o with | some (.rows _ e' m new) => if e' = e then some (m, new) else none | _ => none)
  | .one (.fi b i) => (match findH H b with | some (.inn _ e' _ _ len row) => if e' = e then some (len i, row i) else none | _ => none)
  | _ => none
/-- The row that is appended to: its name, its length, its cells. -/
def dstOf (H : Heap) (te e nw : Nat) : PV → Option (Nat × Nat × (Nat → Nat → PS))
  | .one .nils => some (nw, 0, fun _ _ => .nilp)
  | .one (.os o) => (match findH H o with | some (.rows te' e' n row) => if te' = te ∧ e' = e then some (o, n, row) else none | _ => none)
  | _ => none
def app1 {α : Type} (P : Program) (ks : List Nat) (nb base : Nat) (C : Bool) (H : Heap) (d : Nat) (te : TypeId) (s x : PV) (k : PV → Heap → List Nat → Option α) : Option α := match sizeIn P te, bytesIn P te, zeroIn P te with
  | some e, some by_, some z => (match dstOf H te e (base + d) s, srcOf H e x with
    | some (o, n, row), some (m, new) => if (decide (z.length = e ∧ 0 < e ∧ o < nb) && !lowK base ks o) = true then
        (if C = true then (if (decide (n + m ≤ maxLen) && decide ((n + m) * by_ ≤ 140737488355328)) = true then k (.one (.os o)) (ordH H ((o, .rows te e (n + m) (appRow n row new)) :: killH o H)) [o] else none) else k (.one .nils) H [o]) else none
    | _, _ => none)
  | _, _, _ => none
def lit1 {α : Type} (P : Program) (L : Globs) (nb base : Nat) (E : En) (G : List (Nat × Bool)) (C : Bool) (H : Heap) (d : Nat) (te : TypeId) (len : Nat) (parts : List (Nat × Operand)) (k : PV → Heap → List Nat → Option α) : Option α := match sizeIn P te, zeroIn P te, partsOf L E G parts with
  | some e, some z, some ps => (match fillP (fun i => some (i * e, e)) ((List.range (len * e)).map fun i => z.getD (i % e) .nilp) ps with
    | some l => if (decide (z.length = e ∧ 0 < e ∧ base + d < nb ∧ l.length = len * e ∧ len * e ≤ 16777216) && l.all noPtr) = true then
        (if C = true then (match newH H (base + d) (.rows te e len (litRow e l)) with | some H' => k (.one (.os (base + d))) H' [base + d] | none => none) else k (.one .nils) H [base + d]) else none
    | none => none)
  | _, _, _ => none
def sameOp : Operand → Operand → Bool
  | .tmp a, .tmp b => a == b
  | _, _ => false
def make1 {α : Type} (P : Program) (nb base : Nat) (C : Bool) (H : Heap) (d : Nat) (te : TypeId) (same : Bool) (n n2 : Int) (k : PV → Heap → List Nat → Option α) : Option α := match sizeIn P te, bytesIn P te, zeroIn P te with
  | some e, some by_, some z => if (decide (z.length = e ∧ 0 < e ∧ base + d < nb) && (z.all noPtr && (same || decide (n = n2)))) = true then
      (if C = true then (if (decide (0 ≤ n) && (decide (n.toNat ≤ maxLen) && decide (by_ * n.toNat ≤ 281474976710656))) = true then
        (match newH H (base + d) (.rows te e n.toNat (fun _ j => z.getD j .nilp)) with | some H' => k (.one (.os (base + d))) H' [base + d] | none => none) else none) else k (.one .nils) H [base + d]) else none
  | _, _, _ => none
/-- An own array that is sliced whole: it is only read from then on. -/
def arr1 {α : Type} (P : Program) (base : Nat) (C St : Bool) (H : Heap) (o n : Nat) (te : TypeId) (k : PV → Heap → List Nat → Option α) : Option α := if St = true then (match findH H o, sizeIn P te with
  | some (.box l), some e => if (decide (base ≤ o ∧ 0 < e ∧ l.length = n * e ∧ 0 < n) && l.all noPtr) = true then (if C = true then k (.one (.view n e (litRow e l))) (vwH o .nilp H) [o] else k (.one .nils) H [o]) else none
  | _, _ => none) else none
/-- D's word: slices of this type (for stores: cells of this type) are rows of own rows. -/
def famT (D : FuncId → PV) (t : TypeId) : Bool := match D (1000000 + t) with | .agg _ => true | _ => false
/-- The name of the bundle of a row that is made at slot d. -/
def bnOf (nb d : Nat) : Nat := nb - 2 - d
def sliceOf (P : Program) (t : TypeId) : Option TypeId := match P.underlying t with | some (.slice e) => some e | _ => none
def litF1 {α : Type} (P : Program) (L : Globs) (ks : List Nat) (nb base : Nat) (E : En) (G : List (Nat × Bool)) (C : Bool) (H : Heap) (d : Nat) (te : TypeId) (len : Nat) (parts : List (Nat × Operand)) (k : PV → Heap → List Nat → Option α) : Option α := match len, parts with
  | 1, [(0, x)] => (match opnd L E G x, sizeIn P te, zeroIn P te with
    | some (.one (.os r)), some 1, some [_] => (match findH H r with
      | some (.rows te2 e2 n2 row2) => if (decide (base + d < nb ∧ bnOf nb d < nb ∧ base ≤ bnOf nb d ∧ base + d ≠ bnOf nb d ∧ base + d ≠ r ∧ bnOf nb d ≠ r) && !lowK base ks r) = true then
          (if C = true then (if decide (0 < n2) = true then k (.one (.os (base + d))) (ordH H (chgH [base + d, bnOf nb d, r] [base + d, bnOf nb d, r] [(base + d, .out te 1 (bnOf nb d) none), (bnOf nb d, .inn te2 e2 1 (fun _ => true) (fun _ => n2) (fun _ => row2))] H)) [base + d, bnOf nb d, r] else none) else k (.one .nils) H [base + d, bnOf nb d, r]) else none
      | _ => none)
    | _, _, _ => none)
  | _, _ => none
def mkF1 {α : Type} (P : Program) (nb base : Nat) (C : Bool) (H : Heap) (d : Nat) (te : TypeId) (k : PV → Heap → List Nat → Option α) (v : PV) (H1 : Heap) (kl : List Nat) : Option α := if C = true then (match zeroIn P te, findH H1 (base + d), (sliceOf P te).map fun te2 => (te2, sizeIn P te2) with
  | some [.nils], some (.rows t 1 n _), some (te2, some e2) => if (decide (bnOf nb d < nb ∧ base ≤ bnOf nb d ∧ base + d ≠ bnOf nb d)) = true then k v (ordH H (chgH [bnOf nb d] [bnOf nb d, base + d] [(base + d, .out t n (bnOf nb d) none), (bnOf nb d, .inn te2 e2 n (fun _ => false) (fun _ => 0) (fun _ _ _ => .nilp))] H1)) (bnOf nb d :: kl) else none
  | _, _, _ => none) else (if (decide (base ≤ bnOf nb d)) = true then k v H1 (bnOf nb d :: kl) else none)
/-- What is appended to: its name, its bundle's, its length, the rows. -/
def dstF (H : Heap) (t te e nw nbw : Nat) : PV → Option (Nat × Nat × Nat × (Nat → Bool) × (Nat → Nat) × (Nat → Nat → Nat → PS))
  | .one .nils => some (nw, nbw, 0, fun _ => false, fun _ => 0, fun _ _ _ => .nilp)
  | .one (.os o) => (match findH H o with
    | some (.out t' n b none) => (match findH H b with
      | some (.inn te' e' _ st len row) => if t' = t ∧ te' = te ∧ e' = e then some (o, b, n, st, len, row) else none
      | _ => none)
    | _ => none)
  | _ => none
def appF1 {α : Type} (P : Program) (ks : List Nat) (nb base : Nat) (C : Bool) (H : Heap) (d : Nat) (t : TypeId) (s x : PV) (k : PV → Heap → List Nat → Option α) : Option α := match sizeIn P t, bytesIn P t, zeroIn P t, x with
  | some 1, some by_, some [_], .one (.os o2) => (match findH H o2 with
    | some (.out t2 n2 b2 none) => (match findH H b2 with
      | some (.inn te e _ st2 len2 row2) => (match dstF H t te e (base + d) (bnOf nb d) s with
        | some (o, b, n1, st1, len1, row1) => if (decide (t2 = t ∧ o < nb ∧ b < nb ∧ o ≠ b ∧ o ≠ o2 ∧ o ≠ b2 ∧ b ≠ o2 ∧ b ≠ b2) && (!lowK base ks o && (!lowK base ks b && (!lowK base ks o2 && !lowK base ks b2)))) = true then
            (if C = true then (if (decide (0 < n2) && (decide (n1 + n2 ≤ maxLen) && decide ((n1 + n2) * by_ ≤ 140737488355328))) = true then k (.one (.os o)) (ordH H (chgH [o, b, o2, b2] [o, b, o2, b2] [(o, .out t (n1 + n2) b none), (b, .inn te e (n1 + n2) (appN n1 st1 st2) (appN n1 len1 len2) (appN n1 row1 row2))] H)) [o, b, o2, b2] else none) else k (.one .nils) H [o, b, o2, b2]) else none
        | none => none)
      | _ => none)
    | _ => none)
  | _, _, _, _ => none
/-- The row of rows whose bundle this is. -/
def ownerH : Heap → Nat → Option (Nat × Nat × Nat)
  | [], _ => none
  | (o, .out t n b none) :: r, b' => if b = b' then some (o, t, n) else ownerH r b'
  | _ :: r, b' => ownerH r b'
def takF1 {α : Type} (P : Program) (ks : List Nat) (nb base : Nat) (C : Bool) (H : Heap) (d : Nat) (te : TypeId) (b i : Nat) (x : PV) (k : PV → Heap → List Nat → Option α) : Option α := match sizeIn P te, bytesIn P te, zeroIn P te, ownerH H b, findH H b with
  | some e, some by_, some z, some (o, t, n), some (.inn te' e' n' st len row) => (match srcOf H e x with
    | some (m, new) => if (decide (z.length = e ∧ 0 < e ∧ te' = te ∧ e' = e ∧ base + d < nb ∧ base + d ≠ o ∧ base + d ≠ b) && !lowK base ks b) = true then
        (if C = true then (if (decide (0 < m) && (decide (len i + m ≤ maxLen) && decide ((len i + m) * by_ ≤ 140737488355328))) = true then k (.one (.os (base + d))) (ordH H (chgH [b, base + d] [b, base + d, o] [(base + d, .rows te e (len i + m) (appRow (len i) (row i) new)), (o, .out t n b (some i)), (b, .inn te e n' (upN st i false) (upN len i 0) row)] H)) [b, base + d] else none) else k (.one .nils) H [b, base + d]) else none
    | none => none)
  | _, _, _, _, _ => none
def holeI : Option Nat → Nat → Bool
  | none, _ => true
  | some j, i => j == i
/-- Keys alike. -/
def eqK : PS → PS → Bool
  | .int _ a, .int _ b => a == b
  | .str a, .str b => strEq a b
  | _, _ => false
def putM (val : PS → PS) (s v : PS) : PS → PS := fun s1 => mrg (eqK s1 s) v (val s1)
def valB : Bool → PS → Bool
  | true, .int .i64 _ => true
  | false, .bool _ => true
  | _, _ => false
def zeroS (vi : Bool) : PS := bif vi then .int .i64 0 else .bool false
def kiOf (d : TypeDesc) : Option Bool := bif kindM true d then some true else bif kindM false d then some false else none
def viOf (P : Program) (t : TypeId) : Option Bool := bif zeroB P t true then some true else bif zeroB P t false then some false else none
def newM {α : Type} (P : Program) (nb base : Nat) (C : Bool) (H : Heap) (d : Nat) (kt et : TypeId) (k : PV → Heap → List Nat → Option α) : Option α := match (P.underlying kt).bind kiOf, viOf P et with
  | some ki, some vi => if base + d < nb then (if C = true then (match newH H (base + d) (.mp ki vi (fun _ => zeroS vi)) with | some H' => k (.one (.os (base + d))) H' [base + d] | none => none) else k (.one .nils) H [base + d]) else none
  | _, _ => none
def upM1 {α : Type} (P : Program) (C : Bool) (H : Heap) (kt : TypeId) (o : Nat) (s v : PS) (k : PV → Heap → List Nat → Option α) : Option α := match findH H o, P.underlying kt with
  | some (.mp ki vi val), some dk => if (kindM ki dk && (keyB ki s && valB vi v)) = true then (if C = true then k (.one .nilp) (setH H o (.mp ki vi (putM val s v))) [] else k (.one .nilp) H []) else none
  | _, _ => none
def ptr0 : Option PV → Option Nat
  | some (.one (.ptr o 0)) => some o
  | _ => none
def plainS : PS → Option Value
  | .int k n => some (.int k n)
  | .bool b => some (.bool b)
  | .str s => some (.string s)
  | _ => none
def plainV1 : PV → Option Value
  | .one s => plainS s
  | .agg l => (l.mapM plainS).map fun m => .agg m.toArray
  | _ => none
def plainV : PV → Option Value
  | .one s => plainS s
  | .agg l => (l.mapM plainS).map fun m => .agg m.toArray
  | .tup l => (l.mapM plainV1).map fun m => .tuple m.toArray
  | _ => none
/-- How many plain cells are at the beginning. -/
def lead : List PS → Nat
  | [] => 0
  | s :: l => if noPtr s = true then lead l + 1 else 0
/-- A box of which the plain cells at its beginning are only read. -/
def roS (H : Heap) : PS → PS
  | .ptr o off => (match findH H o with
    | some (.box l) => .vp (lead l) (fun j => l.getD j .nilp) off
    | _ => .ptr o off)
  | s => s
def roV (H : Heap) : PV → PV
  | .one s => .one (roS H s)
  | v => v
/-- What stands for a call's answer where it is not carried out. D f = agg [s]: s; and no row is taken from its arguments. -/
def skV : PV → PV
  | .agg [s] => .one s
  | v => v
/-- Of a function f with D f = tup [] the boxes that it is given are only read, and it answers with plain values. -/
def roD (D : FuncId → PV) (f : FuncId) : Bool := match D f with | .tup [] => true | _ => false
def cR {α : Type} (M : Orac) (f : FuncId) (vs : List PV) (H : Heap) (k : PV → Heap → List Nat → Option α) : Option α := if flat vs = true then (M 0 f vs []).bind (fun r => if r.1 = true then (match r.2.2, plainV r.2.1 with | [], some _ => k r.2.1 H [] | _, _ => none) else none) else none
/-- St: is all known of the operation's guard? The last argument of k: the object whose mentions are void behind it. -/
def o1 {α : Type} (P : Program) (L : Globs) (M : Orac) (D : FuncId → PV) (ks : List Nat) (nb base : Nat) (E : En) (G : List (Nat × Bool)) (C St : Bool) (H : Heap) (dst : Option Tmp) (o : Op) (k : PV → Heap → List Nat → Option α) : Option α := match o with
  | .alloc t => if St = true then (match dst, zeroIn P t with
    | some d, some z => if base + d < nb then (if C = true then (match newH H (base + d) (.box z) with | some H' => k (.one (.ptr (base + d) 0)) H' [base + d] | none => none) else k (.one .nilp) H [base + d]) else none
    | _, _ => none) else none
  | .box _ x => if St = true then (match dst, opnd L E G x with
    | some d, some v => (match cellsOf v with
      | some z => if base + d < nb then (if C = true then (match newH H (base + d) (.box z) with | some H' => k (.one (.ptr (base + d) 0)) H' [base + d] | none => none) else k (.one .nilp) H [base + d]) else none
      | none => none)
    | _, _ => none) else none
  | .store t x y => if St = true then (match dst, opnd L E G x, opnd L E G y with
    | none, some (.one (.ptr ob off)), some v => (match cellsOf v, findH H ob, sizeIn P t with
      | some vl, some (.box cells), some n => if n = vl.length ∧ off + vl.length ≤ cells.length then (if C = true then k (.one .nilp) (setH H ob (.box (cells.take off ++ vl ++ cells.drop (off + vl.length)))) [] else k (.one .nilp) H []) else none
      | _, _, _ => none)
    | none, some (.one (.rp ob e i off)), some (.one (.os r)) => (match findH H ob, findH H r, sizeIn P t with
      | some (.out te nn b hole), some (.rows te2 e2 n2 row2), some n => (match findH H b with
        | some (.inn te3 e3 n3 st len row) => if (decide (n = 1 ∧ e = 1 ∧ off = 0 ∧ te3 = te2 ∧ e3 = e2) && (!lowK base ks b && !lowK base ks r)) = true then (if C = true then (if (decide (i < nn) && (holeI hole i && decide (0 < n2))) = true then k (.one .nilp) (ordH H (chgH [b, r] [b, r, ob] [(ob, .out te nn b none), (b, .inn te3 e3 n3 (upN st i true) (upN len i n2) (upN row i row2))] H)) [b, r] else none) else k (.one .nilp) H [b, r]) else none
        | _ => none)
      | _, _, _ => none)
    | none, some (.one (.fp b i e q off)), some v => (match cellsOf v, findH H b, sizeIn P t with
      | some vl, some (.inn te e' nn st len row), some n => if n = vl.length ∧ off + vl.length ≤ e ∧ e' = e ∧ vl.all noPtr = true then (if C = true then (if decide (q < len i) = true then k (.one .nilp) (setH H b (.inn te e nn st len (upN row i (putRow (row i) q off vl)))) [] else none) else k (.one .nilp) H []) else none
      | _, _, _ => none)
    | none, some (.one (.rp ob e i off)), some v => (match cellsOf v, findH H ob, sizeIn P t with
      | some vl, some (.rows te e' nn row), some n => if n = vl.length ∧ off + vl.length ≤ e ∧ e' = e ∧ vl.all noPtr = true then (if C = true then (if decide (i < nn) = true then k (.one .nilp) (setH H ob (.rows te e nn (putRow row i off vl))) [] else none) else k (.one .nilp) H []) else none
      | _, _, _ => none)
    | _, _, _ => none) else none
  | .buildSlice t len parts => if St = true then (match dst, P.underlying t with
    | some d, some (.slice te) => if famT D t = true then litF1 P L ks nb base E G C H d te len parts.toList k else lit1 P L nb base E G C H d te len parts.toList k
    | _, _ => none) else none
  | .makeSlice t x y => if St = true then (match dst, P.underlying t, opnd L E G x, opnd L E G y with
    | some d, some (.slice te), some (.one (.int _ n)), some (.one (.int _ n2)) => if famT D t = true then make1 P nb base C H d te (sameOp x y) n n2 (mkF1 P nb base C H d te k) else make1 P nb base C H d te (sameOp x y) n n2 k
    | _, _, _, _ => none) else none
  | .makeMap t none => if St = true then (match dst, P.underlying t with
    | some d, some (.map kt et) => newM P nb base C H d kt et k
    | _, _ => none) else none
  | .mapUpdate t x y v => if St = true then (match dst, opnd L E G x, opnd L E G y, opnd L E G v, P.underlying t with
    | none, some (.one (.os o)), some (.one sy), some (.one sv), some (.map kt _) => upM1 P C H kt o sy sv k
    | _, _, _, _, _ => none) else none
  | .insert t x y v => if St = true then (match dst, opnd L E G x, opnd L E G y, opnd L E G v, P.underlying t with
    | none, some (.one (.os o)), some (.one sy), some (.one sv), some (.map kt _) => upM1 P C H kt o sy sv k
    | _, _, _, _, _ => none) else none
  | .call ⟨.builtin .append, ⟨[s, x]⟩, ⟨[t1, t2]⟩⟩ => if St = true then (match dst, P.underlying t1, opnd L E G s, opnd L E G x with
    | some _, some (.slice te), some (.one .nils), some (.one .nils) => if t1 = t2 ∧ (sizeIn P te).isSome = true then k (.one .nils) H [] else none
    | some d, some (.slice te), some (.one (.fi b i)), some xv => if t1 = t2 then takF1 P ks nb base C H d te b i xv k else none
    | some d, some (.slice te), some sv, some xv => if t1 = t2 then (if famT D t1 = true then appF1 P ks nb base C H d te sv xv k else app1 P ks nb base C H d te sv xv k) else none
    | _, _, _, _ => none) else none
  | .call ⟨.value fo, xs, _⟩ => if St = true then (match opnd L E G fo, xs.toList.mapM (opnd L E G) with
    | some (.fn f caps), some vs => if C = true then (if roD D f = true then cR M f ((vs ++ caps.map PV.one).map (roV H)) H k else c1 M ks nb base dst f (vs ++ caps.map .one) H k) else k (skV (D f)) H []
    | _, _ => none) else none
  | .slice t x none none none => (match ptr0 (opnd L E G x), P.underlying t with
    | some o, some (.array n te) => arr1 P base C St H o n te k
    | _, _ => vq P L E G C H (.slice t x none none none) (fun v => k v H []))
  | o => vq P L E G C H o (fun v => k v H [])
def okOf (l : List Nat) (y : Nat) : Bool := !l.contains y
section sound
variable {nb base : Nat} {P : Program} {w : World} {F : Nat → Prop} {β : Blocks} {E : En} {G : List (Nat × Bool)} {L : Globs} {H : Heap} {a : Act} {α : Type} {z : α} {M : Orac} {D : FuncId → PV} {ks : List Nat}
theorem wp_value {o : Oper} {v : Value} {Kc : Act → World → Prop} {Q : Exit → Act → World → Prop} {w' : World} (h : (execOp a.eval o).run P w = .ok (.value v) w') (hk : Kc (a.put o.dst v) w') : o.wp P a w Kc Q := by
  unfold Oper.wp; rw [h]; exact hk
theorem ex_call {dst : Option Tmp} {fo : Operand} {xs : Array Operand} {ats : Array TypeId} {ty : TypeId} {pos : String} {after : Array Edge} {guard : Option (Nat × Bool)} {f : FuncId} {m : Array Value} (h : a.eval fo = .func (.func f) #[] m) :
    execOp a.eval ⟨dst, .call ⟨.value fo, xs, ats⟩, ty, pos, after, guard⟩ = callFunc f ((#[] ++ xs.map a.eval) ++ m) := by
  show (do let d ← resolve a.eval ⟨.value fo, xs, ats⟩ ty; invoke d.target d.args) = _
  unfold resolve
  simp only [h, Deferred.ofValue]
  rfl
/-- Operations that make memory and change none that was there. -/
def freshOp : Op → Bool
  | .alloc _ => true
  | .box _ _ => true
  | .buildSlice _ _ _ => true
  | .makeSlice _ _ _ => true
  | _ => false
/-- What is asked of an operation that may change memory. -/
def Does (P : Program) (nb : Nat) (w : World) (F : Nat → Prop) (β : Blocks) (H : Heap) (a : Act) (o : Oper) (ok : Nat → Bool) (v : PV) (H' : Heap) : Prop := ∀ (Kc : Act → World → Prop) (Q : Exit → Act → World → Prop),
  (∀ (w' : World) (F' : Nat → Prop) (β' : Blocks) (u : Value), (o.dst ≠ none → RN nb w' F' β' v u) → Inv nb w' F' β' H' → Run ok w F β H w' F' β' H' → (freshOp o.op = true → Cls w w') → Kc (a.put o.dst u) w') → o.wp P a w Kc Q
theorem cells_of (hE : okE nb w F β a.tmps E) (hL : okG w F L) (hG : holdsG a.tmps G) {x : Operand} {v : PV} {vl : List PS} (hx : opnd L E G x = some v) (hc : cellsOf v = some vl) : All2 (RS w F β) vl (a.eval x).cells.toList ∧ vl.all (okS (fun y => decide (y < nb))) = true := by
  have := parts_ok (xs := [(0, x)]) (vs := [(0, vl)]) hL hE hG (by unfold partsOf; rw [hx]; simp only [hc]; rfl)
  cases this with
  | cons h _ => exact h.2
theorem one_cells {v : Value} {vl : List PS} (h : All2 (RS w F β) vl v.cells.toList) : ∀ u ∈ v.cells.toList, u.oneCell' = true := by
  generalize v.cells.toList = m at h
  induction h with
  | nil => intro u hu; cases hu
  | cons h1 _ ih => intro u hu; rcases List.mem_cons.1 hu with rfl | hu; exact RS.one h1; exact ih u hu
theorem RS_notagg {s : PS} {v : Value} (h : RS w F β s v) : v.cells = #[v] := by
  have := RS.one h
  cases v <;> simp_all [Value.cells, Value.oneCell']
theorem ex_slice_arr {ρ : Operand → Value} {dst : Option Tmp} {ty : TypeId} {pos : String} {after : Array Edge} {guard : Option (Nat × Bool)} {x : Operand} {t e : TypeId} {b n sz : Nat} (hx : ρ x = .pointer (some ⟨b, 0, none⟩)) (ht : P.underlying t = some (.array n e)) (hi : (P.info? e).map (·.size) = some sz) :
    (execOp ρ ⟨dst, .slice t x none none none, ty, pos, after, guard⟩).run P w = .ok (.value (.slice (some ⟨b, 0, none⟩) n n)) w := by
  cases hq : P.info? e with
  | none => simp [hq] at hi
  | some i' =>
    by_cases h0 : n = 0 <;> simp [execOp, hx, Instr.sliceAt, Instr.sureAddr, Instr.sliceBounds, Sem.run_bind, run_underlying ht, sizeOf, typeInfo, hq, Addr.add, h0]
theorem plainS_ok {s : PS} {u v : Value} (h : plainS s = some u) (r : RS w F β s v) : v = u := by
  unfold plainS at h
  split at h <;> first | (obtain rfl := Option.some.inj h; cases r; rfl) | cases h
theorem mapM_ok {A B : Type} {f : A → Option B} {R : A → B → Prop} (hf : ∀ a b v, f a = some v → R a b → b = v) {l : List A} {m' : List B} (ha : All2 R l m') : ∀ {m : List B}, l.mapM f = some m → m' = m := by
  induction ha with
  | nil => intro m hm; simp at hm; exact hm.symm
  | cons h1 _ ih =>
    intro m hm
    simp only [List.mapM_cons, Option.bind_eq_bind, Option.bind_eq_some_iff, Option.pure_def, Option.some.injEq] at hm
    obtain ⟨v1, hv1, m1, hm1, rfl⟩ := hm
    rw [hf _ _ _ hv1 h1, ih hm1]
theorem plainV1_ok {v : PV} {u u0 : Value} (h : plainV1 v = some u0) (r : RV1 w F β v u) : u = u0 := by
  cases v with
  | one s => exact plainS_ok h r
  | agg l =>
    obtain ⟨m, hm, rfl⟩ := Option.map_eq_some_iff.1 h
    obtain ⟨m', rfl, ha⟩ := r
    rw [mapM_ok (R := RS w F β) (fun a b v h1 h2 => plainS_ok h1 h2) ha hm]
  | fn _ _ => cases h
  | tup _ => cases h
theorem plainV_ok {v : PV} {u u0 : Value} (h : plainV v = some u0) (r : RN nb w F β v u) : u = u0 := by
  cases v with
  | one s => exact plainS_ok h r.1
  | agg l =>
    obtain ⟨m, hm, rfl⟩ := Option.map_eq_some_iff.1 h
    obtain ⟨⟨m', rfl, ha⟩, hx⟩ := r
    rw [mapM_ok (R := RS w F β) (fun a b v h1 h2 => plainS_ok h1 h2) ha hm]
  | tup l =>
    obtain ⟨m, hm, rfl⟩ := Option.map_eq_some_iff.1 h
    obtain ⟨⟨m', rfl, ha⟩, hx⟩ := r
    rw [mapM_ok (R := RV1 w F β) (fun a b v h1 h2 => plainV1_ok h1 h2) ha hm]
  | fn _ _ => cases h
theorem mapM_all {A B : Type} {f : A → Option B} {R : A → B → Prop} {c : A → Bool} (hf : ∀ a v, f a = some v → R a v ∧ c a = true) : ∀ {l : List A} {m : List B}, l.mapM f = some m → All2 R l m ∧ l.all c = true := by
  intro l
  induction l with
  | nil => intro m' h; simp at h; subst h; exact ⟨.nil, rfl⟩
  | cons s l ih =>
    intro m' hm
    simp only [List.mapM_cons, Option.bind_eq_bind, Option.bind_eq_some_iff, Option.pure_def, Option.some.injEq] at hm
    obtain ⟨v1, hv1, m1, hm1, rfl⟩ := hm
    obtain ⟨h5, h6⟩ := ih hm1
    exact ⟨.cons (hf _ _ hv1).1 h5, by rw [List.all_cons, h6, (hf _ _ hv1).2]; rfl⟩
theorem plainS_rn {s : PS} {x : Value} (hx : plainS s = some x) : RS w F β s x ∧ noPtr s = true := by
  unfold plainS at hx
  split at hx <;> first | (obtain rfl := Option.some.inj hx; exact ⟨by constructor, rfl⟩) | cases hx
theorem plainL_rn {l : List PS} {m' : List Value} (h : l.mapM plainS = some m') : All2 (RS w F β) l m' ∧ l.all (okS fun y => decide (y < nb)) = true := mapM_all (fun _ _ hv => ⟨(plainS_rn hv).1, okS_noPtr (plainS_rn (w := w) (F := F) (β := β) hv).2 _⟩) h
theorem plainV1_rn {v : PV} {u0 : Value} (hp : plainV1 v = some u0) : RV1 w F β v u0 ∧ okV1 (fun y => decide (y < nb)) v = true := by
  cases v with
  | one s => exact ⟨(plainS_rn hp).1, okS_noPtr (plainS_rn (w := w) (F := F) (β := β) hp).2 _⟩
  | agg l =>
    obtain ⟨m', hm', rfl⟩ := Option.map_eq_some_iff.1 hp
    exact ⟨⟨m', rfl, (plainL_rn (nb := nb) hm').1⟩, (plainL_rn (w := w) (F := F) (β := β) hm').2⟩
  | fn _ _ => cases hp
  | tup _ => cases hp
theorem plain_rn {v : PV} {u0 : Value} (hp : plainV v = some u0) : RN nb w F β v u0 := by
  cases v with
  | one s => exact ⟨(plainS_rn hp).1, okS_noPtr (plainS_rn (w := w) (F := F) (β := β) hp).2 _⟩
  | agg l =>
    obtain ⟨m', hm', rfl⟩ := Option.map_eq_some_iff.1 hp
    exact ⟨⟨m', rfl, (plainL_rn (nb := nb) hm').1⟩, (plainL_rn (w := w) (F := F) (β := β) hm').2⟩
  | tup l =>
    obtain ⟨m', hm', rfl⟩ := Option.map_eq_some_iff.1 hp
    obtain ⟨h1, h2⟩ := mapM_all (c := okV1 fun y => decide (y < nb)) (fun a v hv => plainV1_rn (w := w) (F := F) (β := β) hv) hm'
    exact ⟨⟨m', rfl, h1⟩, h2⟩
  | fn _ _ => cases hp
theorem lead_ok : ∀ {l : List PS} {j : Nat}, j < lead l → ∃ h : j < l.length, noPtr l[j] = true
  | [], j, h => by simp [lead] at h
  | s :: l, j, h => by
    unfold lead at h
    split at h
    · rename_i hs
      cases j with
      | zero => exact ⟨by simp, hs⟩
      | succ j =>
        obtain ⟨h1, h2⟩ := lead_ok (l := l) (j := j) (by omega)
        exact ⟨by simpa using h1, h2⟩
    · omega
/-- All that is there of the objects is only read. -/
def allF (F : Nat → Prop) (β : Blocks) (H : Heap) : Nat → Prop := fun b => F b ∨ ∃ o l u, (o, l) ∈ H ∧ β o = some u ∧ Blk u b
theorem ro_ok (hI : Inv nb w F β H) {v : PV} {u : Value} (h : RN nb w F β v u) (hn : okV (fun _ => false) (roV H v) = true) : RN nb w (allF F β H) (fun _ => none) (roV H v) u := by
  have hst : ∀ b, F b → allF F β H b ∧ w.heap[b]? = w.heap[b]? := fun b hb => ⟨.inl hb, rfl⟩
  have same : roV H v = v → RN nb w (allF F β H) (fun _ => none) (roV H v) u := fun e => by
    rw [e] at hn ⊢
    refine RN_none hn nb _ (h.step (β' := β) ⟨rfl, rfl, rfl, Nat.le_refl _, hst, fun _ _ _ h => h⟩)
  cases v with
  | one s =>
    cases s with
    | ptr o off =>
      obtain ⟨b, hb, rfl⟩ := RV_ptr h.1
      by_cases hf : ∃ l, findH H o = some (.box l)
      · obtain ⟨l, hf⟩ := hf
        have e : roV H (.one (.ptr o off)) = .one (.vp (lead l) (fun j => l.getD j .nilp) off) := by
          simp only [roV, roS, hf]
        rw [e]
        obtain ⟨_, hnm, b', c, t', hb', hh, ha⟩ := hI.obj o _ (findH_mem hf)
        obtain rfl := ptr_inj hb hb'
        have key : ∀ j, j < (lead l) → ∃ x, w.cell? ⟨b, 0 + j, none⟩ = some x ∧ RF w (allF F β H) (l.getD j .nilp) x := fun j hj => by
          obtain ⟨hlt, hnp⟩ := lead_ok hj
          obtain ⟨x, q1, q2⟩ := ha.get (List.getElem?_eq_getElem hlt)
          refine ⟨x, ?_, ?_⟩
          · rw [cell_of_row w b (0 + j) c t' (0, 0) hh, Nat.zero_add]
            simpa using q1
          · have e2 : l.getD j .nilp = l[j] := by simp [List.getD_eq_getElem?_getD, hlt]
            rw [e2]
            exact ((RS_of hnp).1 q2).mono hst
        have key2 : ∀ j, j < (lead l) → w.cell? ⟨b, 0 + j, none⟩ = some ((w.cell? ⟨b, 0 + j, none⟩).getD undef) ∧ RF w (allF F β H) (l.getD j .nilp) ((w.cell? ⟨b, 0 + j, none⟩).getD undef) := fun j hj => by
          obtain ⟨x, q1, q2⟩ := key j hj
          rw [q1]; exact ⟨rfl, q2⟩
        have hr := RF.vp (lead l) (fun j => l.getD j .nilp) b 0 off (fun j => (w.cell? ⟨b, 0 + j, none⟩).getD undef) (.inr ⟨o, _, _, findH_mem hf, hb, rfl⟩) (fun j hj => (key2 j hj).1) (fun j hj => (key2 j hj).2)
        rw [Nat.zero_add] at hr
        exact ⟨hr, rfl⟩
      · refine same ?_
        simp only [roV, roS]
        split
        · rename_i l hl; exact absurd ⟨_, hl⟩ hf
        · rfl
    | _ => exact same rfl
  | _ => exact same rfl
/-- A call that only reads. -/
theorem ro_call (hM : Sound P L M) (hL : okG w F L) (hI : Inv nb w F β H) {f : FuncId} {vs : List PV} {us : List Value} (hvs : All2 (RN nb w F β) vs us) (hfl : flat (vs.map (roV H)) = true) {v : PV} {u0 : Value} (h : M 0 f (vs.map (roV H)) [] = some (true, v, [])) (hp : plainV v = some u0) {w' : World} (hs : Sees w F β H w') : goesTo P f ∧ Calls P f us.toArray w' (fun e w'' => e = .returned u0 ∧ Cls w' w'') := by
  have hrd : ∀ b, allF F β H b → allF F β H b ∧ w'.heap[b]? = w.heap[b]? := fun b hb => ⟨hb, hs.block b hb⟩
  have hst : Step (fun _ => true) w (allF F β H) (fun _ => none) w' (allF F β H) (fun _ => none) := ⟨hs.os, hs.tape, hs.output, hs.size, hrd, fun _ _ _ h => h⟩
  have hL' : okG w' (allF F β H) L := (fun g s hg => ⟨(hL g s hg).1, ((hL g s hg).2.mono (fun b hb => ⟨.inl hb, rfl⟩ : ∀ b, F b → allF F β H b ∧ w.heap[b]? = w.heap[b]?)).mono hst.read⟩)
  have hI' : Inv 0 w' (allF F β H) (fun _ => none) [] := ⟨(fun _ _ _ hm => nomatch hm), (fun _ _ hm => nomatch hm), (fun _ _ _ h => nomatch h), (fun _ _ _ _ _ h => nomatch h), fun b hb => Nat.lt_of_lt_of_le (by
    rcases hb with hb | ⟨o, l, u, _, h1, h2⟩
    · exact hI.lt b hb
    · exact hI.ltβ o u b h1 h2) hs.size, (fun _ _ _ h => nomatch h)⟩
  have hargs : All2 (RN 0 w' (allF F β H) (fun _ => none)) (vs.map (roV H)) us := by
    have hall : ∀ x ∈ vs, okV (fun _ => false) (roV H x) = true := fun x hx => List.all_eq_true.1 hfl _ (List.mem_map.2 ⟨x, hx, rfl⟩)
    clear h hfl
    induction hvs with
    | nil => exact .nil
    | cons q1 _ ih =>
      refine .cons ?_ (ih (fun x hx => hall x (List.mem_cons_of_mem _ hx)))
      have q2 := ro_ok hI q1 (hall _ (List.mem_cons_self ..))
      exact RN_none (hall _ (List.mem_cons_self ..)) 0 _ (q2.step ⟨hs.os, hs.tape, hs.output, hs.size, hrd, fun _ _ _ h => h⟩)
  obtain ⟨h3, h4⟩ := hM 0 f _ [] v [] h w' _ (fun _ => none) us hL' hI' hargs
  refine ⟨h3, h4.mono ?_⟩
  rintro e w'' ⟨u, F', β', rfl, h5, h6, h7⟩
  exact ⟨by rw [plainV_ok hp h5], ⟨h7.step.os, h7.step.tape, h7.step.output, h7.step.size, fun b hb => h7.frame b hb (fun _ _ _ hm => nomatch hm)⟩⟩
theorem low_base {d : Nat} : ∀ x ∈ [base + d], lowK base ks x = false := fun x hx => by
  obtain rfl := List.mem_singleton.1 hx
  simp only [lowK, Bool.and_eq_false_iff, decide_eq_false_iff_not]
  exact .inl (Nat.not_lt.2 (Nat.le_add_right _ _))
theorem one_run {o : Nat} {w' : World} {F' : Nat → Prop} {β' : Blocks} {H' : Heap} (h : Run (fun x => x != o) w F β H w' F' β' H') : Run (okOf [o]) w F β H w' F' β' H' := h.weaken (fun x hx => by simpa [okOf] using hx)
theorem ad1_ok {ok : Nat → Bool} {dst : Option Tmp} {v : PV} {H1 : Heap} {k : PV → Heap → List Nat → Option α} (hok : ∀ x, ok x = true → x < nb) (h : ad1 nb base dst v H1 k = some z) :
    ∃ v' H' kl, k v' H' kl = some z ∧ (∀ x ∈ kl, lowK base ks x = false) ∧ ∀ {w' : World} {F' : Nat → Prop} {β' : Blocks} {u : Value}, RN (nb + 1) w' F' β' v u → Inv (nb + 1) w' F' β' H1 → Run ok w F β H w' F' β' H1 →
      ∃ β'', RN nb w' F' β'' v' u ∧ Inv nb w' F' β'' H' ∧ Run (fun x => okOf kl x && ok x) w F β H w' F' β'' H' := by
  have plain : (if (okV (fun z => decide (z < nb)) v && lowB nb H1) = true then k v H1 [] else none) = some z → ∃ v' H' kl, k v' H' kl = some z ∧ (∀ x ∈ kl, lowK base ks x = false) ∧ ∀ {w' : World} {F' : Nat → Prop} {β' : Blocks} {u : Value}, RN (nb + 1) w' F' β' v u → Inv (nb + 1) w' F' β' H1 → Run ok w F β H w' F' β' H1 →
      ∃ β'', RN nb w' F' β'' v' u ∧ Inv nb w' F' β'' H' ∧ Run (fun x => okOf kl x && ok x) w F β H w' F' β'' H' := fun h => by
    split at h
    case isFalse => cases h
    rename_i hc
    rw [Bool.and_eq_true] at hc
    exact ⟨v, H1, [], h, fun x hx => (nomatch hx), fun {w' F' β' u} h1 h2 h3 => ⟨β', ⟨h1.1, hc.1⟩, down_ok h2 hc.2, h3.weaken (fun x hx => (Bool.and_eq_true _ _ ▸ hx).2)⟩⟩
  unfold ad1 at h
  split at h
  · rename_i o t e n row H2
    split at h
    · rename_i ho
      subst ho
      split at h
      case isFalse => cases h
      rename_i hc
      simp only [Bool.and_eq_true, decide_eq_true_eq] at hc
      obtain ⟨h0, h1, h2⟩ := hc
      split at h
      · rename_i H' hH
        refine ⟨_, H', _, h, fun x hx => by obtain rfl := List.mem_singleton.1 hx; simp only [lowK, Bool.and_eq_false_iff, decide_eq_false_iff_not]; exact .inl (Nat.not_lt.2 h0), fun {w' F' β' u} h4 h5 h6 => ?_⟩
        obtain ⟨h7, h8⟩ := adopt_ok h5 h6 h1 hH
        refine ⟨_, adopt_val h4 h1 h2, h7, h8.weaken (fun x hx => ?_)⟩
        simp only [okOf, Bool.and_eq_true, Bool.not_eq_true', List.contains_eq_mem, List.mem_singleton, decide_eq_false_iff_not] at hx
        have := hok x hx.2
        simp only [Bool.and_eq_true, bne_iff_ne, ne_eq]
        exact ⟨hx.2, by omega, hx.1⟩
      · cases h
    · exact plain h
  · exact plain h
theorem cF_kl {dst : Option Tmp} {f : FuncId} {vs : List PV} {k : PV → Heap → List Nat → Option α} (h : cF M ks nb base dst f vs H k = some z) : ∃ v H' kl, k v H' kl = some z ∧ ∀ x ∈ kl, lowK base ks x = false := by
  unfold cF at h
  split at h
  case h_2 => cases h
  rename_i H0 hs
  generalize reach H vs = Lr at *
  generalize nmOf nb base dst = nm at *
  unfold cF2 at h
  split at h
  case isFalse => cases h
  obtain ⟨⟨pb, v, H1⟩, h1, h2⟩ := Option.bind_eq_some_iff.1 h
  simp only at h2
  split at h2
  case isFalse => cases h2
  unfold cF3 at h2
  split at h2
  case isFalse => cases h2
  rename_i hc
  simp only [Bool.and_eq_true] at hc
  obtain ⟨c1, c2, c3, c4, c5⟩ := hc
  refine ⟨_, _, _, h2, fun x hx => ?_⟩
  rcases List.mem_append.1 hx with hx | hx
  · simpa using List.all_eq_true.1 c4 x hx
  · cases hn : hasN H1 Lr.length with
    | false => rw [hn] at hx; cases hx
    | true =>
      rw [hn] at hx c1
      obtain rfl := List.mem_singleton.1 hx
      simp only [Bool.not_true, Bool.false_or, Bool.and_eq_true, decide_eq_true_eq] at c1
      simp only [lowK, Bool.and_eq_false_iff, decide_eq_false_iff_not]
      exact .inl (Nat.not_lt.2 c1.1)
include P in
theorem cF_ok (hM : Sound P L M) (hL : okG w F L) (hI : Inv nb w F β H) {dst : Option Tmp} {f : FuncId} {vs : List PV} {us : List Value} (hvs : All2 (RN nb w F β) vs us) {k : PV → Heap → List Nat → Option α} (h : cF M ks nb base dst f vs H k = some z) :
    ∃ v H' kl, k v H' kl = some z ∧ (∀ x ∈ kl, lowK base ks x = false) ∧ goesTo P f ∧ Calls P f us.toArray w (fun e w' => ∃ (u : Value) (F' : Nat → Prop) (β' : Blocks), e = .returned u ∧ RN nb w' F' β' v u ∧ Inv nb w' F' β' H' ∧ Run (fun x => okOf kl x && decide (x < nb)) w F β H w' F' β' H') := by
  unfold cF at h
  split at h
  case h_2 => cases h
  rename_i H0 hs
  generalize reach H vs = Lr at *
  generalize nmOf nb base dst = nm at *
  unfold cF2 at h
  split at h
  case isFalse => cases h
  rename_i hc
  rw [Bool.and_eq_true] at hc
  obtain ⟨hnd, hargs⟩ := hc
  obtain ⟨⟨pb, v, H1⟩, h1, h2⟩ := Option.bind_eq_some_iff.1 h
  simp only at h2
  split at h2
  case isFalse => cases h2
  rename_i hpb
  subst hpb
  unfold cF3 at h2
  split at h2
  case isFalse => cases h2
  rename_i hc
  simp only [Bool.and_eq_true] at hc
  obtain ⟨c1, c2, c3, c4, c5⟩ := hc
  obtain ⟨h3, h4⟩ := hM Lr.length f _ H0 v H1 h1 w F (frB β Lr) us hL (fr_in hI hnd hs) (fr_args hvs hargs)
  refine ⟨_, _, _, h2, fun x hx => ?_, h3, h4.mono ?_⟩
  · rcases List.mem_append.1 hx with hx | hx
    · simpa using List.all_eq_true.1 c4 x hx
    · cases hn : hasN H1 Lr.length with
      | false => rw [hn] at hx; cases hx
      | true =>
        rw [hn] at hx c1
        obtain rfl := List.mem_singleton.1 hx
        simp only [Bool.not_true, Bool.false_or, Bool.and_eq_true, decide_eq_true_eq] at c1
        simp only [lowK, Bool.and_eq_false_iff, decide_eq_false_iff_not]
        exact .inl (Nat.not_lt.2 c1.1)
  · rintro e w' ⟨u, F', β', rfl, h5, h6, h7⟩
    obtain ⟨q1, q2, q3⟩ := fr_out (low := fun j => !(ksOf H0).contains j) (nm := nm) hI hnd hs h6 h7 (fun hn => by
      rw [hn] at c1
      simp only [Bool.not_true, Bool.false_or, Bool.and_eq_true, decide_eq_true_eq, Bool.not_eq_true'] at c1
      exact c1.2) c2 c5
    refine ⟨u, F', _, rfl, q3 h5 c3, q1.less (fun _ => ordH_sub), (q2.less (fun _ => ordH_sub)).weaken (fun x hx => ?_)⟩
    simp only [Bool.and_eq_true, okOf, Bool.not_eq_true', List.contains_eq_mem, List.mem_append, decide_eq_false_iff_not, decide_eq_true_eq, not_or] at hx
    obtain ⟨⟨hx1, hx2⟩, _⟩ := hx
    simp only [Bool.and_eq_true, Bool.not_eq_true']
    refine ⟨?_, ?_⟩
    · by_cases hl : x ∈ Lr
      · have e1 : bkL Lr nm (ixL Lr x) = x := by unfold bkL; rw [List.getD_eq_getElem?_getD, ix_at hl]; rfl
        have : ixL Lr x ∉ ksOf H0 := fun hm => hx1 (List.mem_map.2 ⟨_, hm, e1⟩)
        simp [this]
      · simp [hl]
    · cases hn : hasN H1 Lr.length with
      | false => rfl
      | true =>
        rw [hn] at hx2
        have : x ≠ nm := fun e => hx2 (e ▸ List.mem_singleton.2 rfl)
        simp [this]
include P in
theorem call_ok (hM : Sound P L M) (hL : okG w F L) (hI : Inv nb w F β H) {dst : Option Tmp} {f : FuncId} {vs : List PV} {us : List Value} (hvs : All2 (RN nb w F β) vs us) {k : PV → Heap → List Nat → Option α} (h : c1 M ks nb base dst f vs H k = some z) :
    ∃ v H' kl, k v H' kl = some z ∧ (∀ x ∈ kl, lowK base ks x = false) ∧ goesTo P f ∧ Calls P f us.toArray w (fun e w' => ∃ (u : Value) (F' : Nat → Prop) (β' : Blocks), e = .returned u ∧ RN nb w' F' β' v u ∧ Inv nb w' F' β' H' ∧ Run (fun x => okOf kl x && decide (x < nb)) w F β H w' F' β' H') := by
  unfold c1 at h
  split at h
  · rename_i hfl
    obtain ⟨⟨pb, v, H'⟩, h1, h2⟩ := Option.bind_eq_some_iff.1 h
    simp only at h2
    split at h2
    case isFalse => cases h2
    rename_i hpb
    subst hpb
    obtain ⟨h3, h4⟩ := hM 0 f vs [] v H' h1 w F (fun _ => none) us hL hI.start (hvs.imp (fun v _ hm r => RN_none (List.all_eq_true.1 hfl v hm) 0 _ r))
    split at h2
    · split at h2
      case isFalse => cases h2
      rename_i hfv
      refine ⟨v, H, [], h2, fun x hx => (nomatch hx), h3, h4.mono ?_⟩
      rintro e w' ⟨u, F', β', rfl, h5, h6, h7⟩
      obtain ⟨h8, h9⟩ := hI.call h6.nil0 (h7.weaken (fun x hx => by simp at hx))
      exact ⟨u, F', β, rfl, RN_none hfv nb β h5, h8, h9.weaken (fun x hx => (Bool.and_eq_true _ _ ▸ hx).2)⟩
    · rename_i o t e n row
      split at h2
      case isFalse => cases h2
      rename_i ho
      subst ho
      obtain ⟨v', H', kl, q1, q2, q3⟩ := ad1_ok (w := w) (F := F) (β := β) (H := H) (ok := fun x => decide (x < nb)) (ks := ks) (fun x hx => by simpa using hx) h2
      refine ⟨v', H', kl, q1, q2, h3, h4.mono ?_⟩
      rintro e w' ⟨u, F', β', rfl, h5, h6, h7⟩
      obtain ⟨h8, h9⟩ := lift_ok hI h6 (h7.weaken (fun x hx => by simp at hx))
      obtain ⟨β'', h10, h11, h12⟩ := q3 (lift_val h5) h8 h9
      exact ⟨u, F', β'', rfl, h10, h11, h12⟩
    · cases h2
  · exact cF_ok hM hL hI hvs h
theorem all2_app_caps {vs : List PV} {us : List Value} {caps : List PS} {m : List Value} (h1 : All2 (RN nb w F β) vs us) (h2 : All2 (RS w F β) caps m) (h3 : caps.all (okS (fun y => decide (y < nb))) = true) : All2 (RN nb w F β) (vs ++ caps.map .one) (us ++ m) := by
  refine h1.app ?_
  induction h2 with
  | nil => exact .nil
  | cons h4 _ ih =>
    rw [List.all_cons, Bool.and_eq_true] at h3
    exact .cons ⟨h4, h3.1⟩ (ih h3.2)
theorem new_does (hI : Inv nb w F β H) {o : Oper} {d : Tmp} {t : TypeId} {cv : Value} {zl : List PS} {H' : Heap} (hlt : base + d < nb) (hz : zl.all (okS (fun x => decide (x < nb))) = true) (hc : All2 (RS w F β) zl cv.cells.toList) (hH : newH H (base + d) (.box zl) = some H')
    (hr : (execOp a.eval o).run P w = .ok (.value (.pointer (some ⟨w.heap.size, 0, none⟩))) { w with heap := w.heap.push (.cells cv.cells t) }) : Does P nb w F β H a o (okOf [base + d]) (.one (.ptr (base + d) 0)) H' := by
  intro Kc Q hk
  obtain ⟨h1, h2⟩ := new_box hI hlt hz t hc hH
  exact wp_value hr (hk _ F _ _ (fun _ => ⟨⟨_, putB_same _ _ _, rfl⟩, by simpa [okV, okS] using hlt⟩) h1 (one_run h2) (fun _ => push_cls _ _))
theorem zero_pad {e len : Nat} {z : List PS} {zv : Array Value} (hz : All2 (RS w F β) z zv.toList) (hzn : z.all (okS (fun x => decide (x < nb))) = true) (hl : z.length = e) (he : 0 < e) : All2 (RS w F β) ((List.range (len * e)).map fun i => z.getD (i % e) .nilp) ((Array.range (len * e)).map (zv[· % zv.size]!)).toList ∧ ((List.range (len * e)).map fun i => z.getD (i % e) .nilp).all (okS (fun x => decide (x < nb))) = true := by
  have hsz : zv.size = e := by have := hz.length; simp at this; omega
  have hm : ∀ i, i % e < z.length := fun i => by rw [hl]; exact Nat.mod_lt _ he
  refine ⟨All2.of_get (by simp) (fun i s v hs hv => ?_), ?_⟩
  · simp only [List.getElem?_map, Option.map_eq_some_iff, Array.toList_map, Array.toList_range] at hs hv
    obtain ⟨i1, h1, rfl⟩ := hs
    obtain ⟨i2, h2, rfl⟩ := hv
    rw [h1] at h2
    obtain rfl := Option.some.inj h2
    obtain ⟨u, h3, h4⟩ := hz.get (List.getElem?_eq_getElem (hm i1))
    have e1 : z.getD (i1 % e) .nilp = z[i1 % e]'(hm i1) := by simp [List.getD_eq_getElem?_getD, hm i1]
    rw [e1, hsz]
    have e2 : zv[i1 % e]! = u := by
      have h5 : zv[i1 % e]? = some u := by simpa using h3
      rw [Array.getElem!_eq_getD, Array.getD_eq_getD_getElem?, h5]; rfl
    rw [e2]; exact h4
  · rw [List.all_eq_true] at hzn ⊢
    intro s hs
    obtain ⟨i1, _, rfl⟩ := List.mem_map.1 hs
    have e1 : z.getD (i1 % e) .nilp = z[i1 % e]'(hm i1) := by simp [List.getD_eq_getElem?_getD, hm i1]
    rw [e1]
    exact hzn _ (List.getElem_mem _)
theorem lit_ok (hL : okG w F L) (hI : Inv nb w F β H) (hE : okE nb w F β a.tmps E) {C : Bool} {o : Oper} {d : Tmp} (hd : o.dst = some d) {t te : TypeId} {len : Nat} {parts : Array (Nat × Operand)} (hop : o.op = .buildSlice t len parts) (ht : P.underlying t = some (.slice te)) {k : PV → Heap → List Nat → Option α} (h : lit1 P L nb base E G C H d te len parts.toList k = some z) :
    ∃ v H' kl, k v H' kl = some z ∧ (∀ x ∈ kl, lowK base ks x = false) ∧ (H' = H ∨ C = true) ∧ (holdsG a.tmps G → C = true → Does P nb w F β H a o (okOf kl) v H') := by
  unfold lit1 at h
  split at h
  · rename_i e zl ps he hz hps
    split at h
    · rename_i l hl
      split at h
      case isFalse => cases h
      rename_i hq
      rw [Bool.and_eq_true, decide_eq_true_eq] at hq
      obtain ⟨⟨h1, h2, h3, h4, h5⟩, h6⟩ := hq
      split at h
      · rename_i hC
        split at h
        · rename_i H' hH
          refine ⟨_, H', _, h, low_base, .inr hC, fun hG _ => ?_⟩
          obtain ⟨i, zv, h7, h8, h9, h10⟩ := zero_ok (nb := nb) (w := w) (F := F) (β := β) hz
          obtain ⟨h11, h12⟩ := zero_pad (len := len) h9 h10 h1 h2
          obtain ⟨arr, h13, h14, h15⟩ := fill_ok (pl' := fun i => some (i * e, e)) (fun _ => rfl) (parts_ok hL hE hG hps) h11 h12 hl
          have hie : i.size = e := by
            obtain ⟨i', h16, h17⟩ := Option.map_eq_some_iff.1 he
            rw [h7] at h16; obtain rfl := Option.some.inj h16; exact h17
          have hmax : len ≤ maxLen := by
            have : len * 1 ≤ len * e := Nat.mul_le_mul_left _ h2
            simp only [maxLen]; omega
          obtain ⟨h18, h19⟩ := new_row hI h3 h14 h6 h4 hmax hH
          intro Kc Q hk
          refine wp_value (v := .slice (some ⟨w.heap.size, 0, none⟩) len len) ?_ (hk _ F _ _ (fun _ => ⟨⟨putB_same _ _ _, rfl⟩, by simpa [okV, okS] using h3⟩) h18 (one_run h19) (fun _ => push_cls _ _))
          obtain ⟨dst, op, ty, pos, after, guard⟩ := o
          simp only at hop
          subst hop
          have hparts : (parts.map fun (x : Nat × Operand) => (x.1, a.eval x.2)).toList = parts.toList.map fun p => (p.1, a.eval p.2) := by simp
          have h13' : Instr.fill (fun i => some (i * e, e)) ((Array.range (len * e)).map (zv.cells[· % zv.cells.size]!)) (parts.map fun (x : Nat × Operand) => (x.1, a.eval x.2)).toList = some arr := by rw [hparts]; exact h13
          unfold execOp
          simp only [Instr.buildSlice, Sem.run_bind, run_underlying ht, sizeOf, typeInfo, Sem.run_pure, Result.andThen_ok, zeroValue]
          have hr0 : Array.range 0 = #[] := rfl
          by_cases h0 : len * e = 0
          · have hl0 : len = 0 := by rcases Nat.mul_eq_zero.1 h0 with h | h <;> omega
            subst hl0
            have h13b : Instr.fill (fun i => some (i * e, e)) #[] (parts.map fun (x : Nat × Operand) => (x.1, a.eval x.2)).toList = some arr := by
              have := h13'
              rw [Nat.zero_mul, hr0, Array.map_empty] at this
              exact this
            have hpl : (parts.map fun (x : Nat × Operand) => (x.1, a.eval x.2)).toList = parts.toList.map fun (x : Nat × Operand) => (x.1, a.eval x.2) := by simp
            rw [hpl] at h13b
            simp [h7, hie, hr0, h13b, Sem.run, newRow, newObj, program]
          · simp_all [Sem.run, newRow, newObj, program]
        · cases h
      · rename_i hC
        exact ⟨_, H, _, h, low_base, .inl rfl, fun _ hC' => absurd hC' hC⟩
    · cases h
  · cases h
theorem make_ok (hL : okG w F L) (hI : Inv nb w F β H) (hE : okE nb w F β a.tmps E) {C : Bool} {o : Oper} {d : Tmp} (hd : o.dst = some d) {x y : Operand} {t te : TypeId} (hop : o.op = .makeSlice t x y) (ht : P.underlying t = some (.slice te)) {k1 k2 : IntKind} {n n2 : Int} (hx : opnd L E G x = some (.one (.int k1 n))) (hy : opnd L E G y = some (.one (.int k2 n2))) {k : PV → Heap → List Nat → Option α} (h : make1 P nb base C H d te (sameOp x y) n n2 k = some z) :
    ∃ v H' kl, k v H' kl = some z ∧ (∀ x ∈ kl, lowK base ks x = false) ∧ (H' = H ∨ C = true) ∧ (C = true → kl = [base + d] ∧ v = .one (.os (base + d)) ∧ ∃ zl m, zeroIn P te = some zl ∧ newH H (base + d) (.rows te zl.length m (fun _ j => zl.getD j .nilp)) = some H') ∧ (holdsG a.tmps G → C = true → Does P nb w F β H a o (okOf kl) v H') := by
  unfold make1 at h
  split at h
  · rename_i e by_ zl he hby hz
    split at h
    case isFalse => cases h
    rename_i hq
    simp only [Bool.and_eq_true, decide_eq_true_eq, Bool.or_eq_true] at hq
    obtain ⟨⟨h1, h2, h3⟩, h4, h5⟩ := hq
    split at h
    · rename_i hC
      split at h
      case isFalse => cases h
      rename_i hr
      simp only [Bool.and_eq_true, decide_eq_true_eq] at hr
      obtain ⟨h6, h7, h8⟩ := hr
      split at h
      · rename_i H' hH
        refine ⟨_, H', _, h, low_base, .inr hC, fun _ => ⟨rfl, rfl, zl, n.toNat, hz, by rw [h1]; exact hH⟩, fun hG _ => ?_⟩
        obtain ⟨i, zv, h16, h17, h18, _⟩ := zero_ok (nb := nb) (w := w) (F := F) (β := β) hz
        have hie : i.size = e := by
          obtain ⟨i', h19, h20⟩ := Option.map_eq_some_iff.1 he
          rw [h16] at h19; obtain rfl := Option.some.inj h19; exact h20
        have hib : i.bytes = by_ := by
          obtain ⟨i', h19, h20⟩ := Option.map_eq_some_iff.1 hby
          rw [h16] at h19; obtain rfl := Option.some.inj h19; exact h20
        have hzs : zv.cells.size = e := by have := h18.length; simp at this; omega
        have ex : a.eval x = .int k1 n := RV_int (opnd_ok hL hE hG hx).1
        have ey : a.eval y = .int k2 n := by
          have ey := RV_int (opnd_ok hL hE hG hy).1
          rcases h5 with h5 | h5
          · cases x with
            | tmp q => cases y with
              | tmp r =>
                have : q = r := by simpa [sameOp] using h5
                subst this
                rw [hx] at hy
                obtain ⟨rfl, rfl⟩ := PS.int.inj (PV.one.inj (Option.some.inj hy))
                exact ey
              | _ => cases h5
            | _ => cases h5
          · rw [ey, h5]
        obtain ⟨w', h21, h22, h23⟩ := run_make_full (P := P) w 0 t te i zv e ht h16 h17 hie k1 k2 n.toNat (by rw [hib]; exact h8) h7 (Nat.zero_le _)
        have hn : ((n.toNat : Nat) : Int) = n := Int.toNat_of_nonneg h6
        rw [hn] at h21
        have hcls : Cls w w' := ⟨h23.os, h23.tape, h23.output, h23.size, fun b hb => h23.block b hb (by simp)⟩
        have hlt : w.heap.size < w'.heap.size := by
          rcases h22.2 with ⟨h, _⟩ | ⟨g, cap, cur, h, _, hh, _⟩
          · cases h
          · cases h
            rcases Nat.lt_or_ge w.heap.size w'.heap.size with q | q
            · exact q
            · rw [Array.getElem?_eq_none q] at hh; cases hh
        obtain ⟨h24, h25⟩ := new_ok (u := .slice (some ⟨w.heap.size, 0, none⟩) n.toNat n.toNat) hI h3 (fun b hb => Blk_eq (k := w.heap.size) rfl hb ▸ ⟨Nat.le_refl _, hlt⟩) hcls hH (fun hst _ => ⟨_, _, putB_same _ _ _, h22, fun i1 j1 hi hj => by
          have hk : i1 * e + j1 < n.toNat * e := row_lt hi hj
          have hj' : j1 < zl.length := by omega
          obtain ⟨u, h26, h27⟩ := h18.get (List.getElem?_eq_getElem hj')
          refine ⟨u, ?_, ?_⟩
          · have e1 : (i1 * e + j1) % e = j1 := by rw [Nat.mul_comm, Nat.mul_add_mod, Nat.mod_eq_of_lt hj]
            have h28 : zv.cells[j1]? = some u := by simpa using h26
            simp only [madeCells, Array.toList_map, List.getElem?_map, Array.toList_range, List.getElem?_range hk, Option.map_some]
            rw [hzs, e1, Array.getElem!_eq_getD, Array.getD_eq_getD_getElem?, h28]; rfl
          · have e2 : zl.getD j1 .nilp = zl[j1] := by simp [List.getD_eq_getElem?_getD, hj']
            show RF w' F (zl.getD j1 .nilp) u
            rw [e2]
            exact ((RS_of (List.all_eq_true.1 h4 _ (List.getElem_mem hj'))).1 h27).mono hst.read⟩)
        intro Kc Q hk
        refine wp_value (v := .slice (some ⟨w.heap.size, 0, none⟩) n.toNat n.toNat) ?_ (hk w' F _ _ (fun _ => ⟨⟨putB_same _ _ _, rfl⟩, by simpa [okV, okS] using h3⟩) h24 (one_run h25) (fun _ => hcls))
        obtain ⟨dst, op, ty, pos, after, guard⟩ := o
        simp only at hop
        subst hop
        simp [execOp, ex, ey, h21]
      · cases h
    · rename_i hC
      exact ⟨_, H, _, h, low_base, .inl rfl, fun hC' => absurd hC' hC, fun _ hC' => absurd hC' hC⟩
  · cases h
end sound
end Go.Proofs.Ytobfnncpjkeloaa.Ev
