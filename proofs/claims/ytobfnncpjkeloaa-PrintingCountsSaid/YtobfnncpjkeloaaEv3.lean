import Derived.Test.YtobfnncpjkeloaaEv2
import Derived.Laws.Cover3
namespace Go.Proofs.Ytobfnncpjkeloaa.Ev
open Go Go.RowKit Go.Proofs.YtobfnncpjkeloaaW.PrintLast
def kindOf (P : Program) (t : TypeId) : Option Bool := (P.underlying t).map TypeDesc.isRow
def sizeIn (P : Program) (t : TypeId) : Option Nat := (P.info? t).map (·.size)
def findH (H : Heap) (o : Nat) : Option OB := (H.find? (fun x => x.1 == o)).map (·.2)
theorem findH_mem {H : Heap} {o : Nat} {l : OB} (h : findH H o = some l) : (o, l) ∈ H := by
  unfold findH at h
  obtain ⟨x, hx, rfl⟩ := Option.map_eq_some_iff.1 h
  have := List.find?_some hx
  have e : x.1 = o := by simpa using this
  subst e
  exact List.mem_of_find?_eq_some hx
theorem kindOf_some {P : Program} {t : TypeId} {b : Bool} (h : kindOf P t = some b) : ∃ d, P.underlying t = some d ∧ d.isRow = b := by
  obtain ⟨d, h1, h2⟩ := Option.map_eq_some_iff.1 h
  exact ⟨d, h1, h2⟩
def cellsOf : PV → Option (List PS)
  | .one s => some [s]
  | .agg l => some l
  | _ => none
/-- A struct's or a row's cells, the parts put in. -/
def fillP (place : Nat → Option (Nat × Nat)) : List PS → List (Nat × List PS) → Option (List PS)
  | cells, [] => some cells
  | cells, (i, v) :: r => match place i with
    | none => none
    | some (off, size) => if v.length ≠ size || off + v.length > cells.length then none else fillP place (cells.take off ++ v ++ cells.drop (off + v.length)) r
def zeroIn (P : Program) (t : TypeId) : Option (List PS) := match P.info? t with
  | some i => (match i.zero with | some z => z.cells.toList.mapM constV | none => none)
  | none => none
def placesIn (P : Program) (t : TypeId) : Option (Nat → Option (Nat × Nat)) := match P.underlying t with
  | some (.array _ e) => (match sizeIn P e with | some s => some (fun i => some (i * s, s)) | none => none)
  | some (.struct fields) => (match fields.toList.mapM (fun f => (P.info? f.type).map fun i => (f.offset, i.size)) with | some places => some (fun i => places[i]?) | none => none)
  | _ => none
def partsOf (L : Globs) (E : En) (G : List (Nat × Bool)) : List (Nat × Operand) → Option (List (Nat × List PS))
  | [] => some []
  | (i, x) :: r => match opnd L E G x with
    | some v => (match cellsOf v, partsOf L E G r with | some l, some r' => some ((i, l) :: r') | _, _ => none)
    | none => none
def capsOf (L : Globs) (E : En) (G : List (Nat × Bool)) : List Operand → Option (List PS)
  | [] => some []
  | x :: r => match opnd L E G x with
    | some (.one s) => (match capsOf L E G r with | some r' => some (s :: r') | none => none)
    | _ => none
/-- Is the i-th header there? -/
def holeB : Option Nat → Nat → Bool
  | none, _ => true
  | some j, i => !(j == i)
def intOf (L : Globs) (E : En) (G : List (Nat × Bool)) (o : Option Operand) (z : Int) : Option Int := match o with
  | none => some z
  | some x => (match opnd L E G x with | some (.one (.int _ i)) => some i | _ => none)
def subRow (lo : Option Operand) (l : Nat) (row : Nat → Nat → PS) : Nat → Nat → PS := match lo with
  | none => row
  | some _ => fun i j => row (l + i) j
def chk {α : Type} (C p : Bool) (r : Option α) : Option α := if (bif p then true else !C) = true then r else none
theorem chk_some {α : Type} {C p : Bool} {r : Option α} {z : α} (h : chk C p r = some z) : r = some z ∧ (C = true → p = true) := by
  unfold chk at h
  split at h
  · rename_i hc
    exact ⟨h, fun e => by rw [e] at hc; cases p <;> first | rfl | exact hc⟩
  · cases h
def mergeV : Bool → PV → PV → Option PV
  | cb, .one (.bool p), .one (.bool q) => some (.one (.bool (bif cb then p else q)))
  | cb, .one (.int k1 p), .one (.int k2 q) => if k1 = k2 then some (.one (.int k1 (bif cb then p else q))) else none
  | _, _, _ => none
/-- A string's byte. -/
def strAt (s : ByteArray) (i : Int) : Int := ((s[i.toNat]?).getD 0).toNat
def strEq (a b : ByteArray) : Bool := a.toList == b.toList
def strSub (s : ByteArray) (l h : Nat) : ByteArray := s.extract l h
/-- == and != : is it the latter? -/
def eqB : BinOp → Option Bool
  | .eql => some false
  | .neq => some true
  | _ => none
/-- Two structs of numbers and truth values. -/
def eqCells (P : Program) : List Field → List PS → List PS → Option Bool
  | [], _, _ => some true
  | f :: fs, l, m => if (f.name == "_") = true then none else (match P.underlying f.type, l[f.offset]?, m[f.offset]? with
    | some (.int _), some (.int k a), some (.int k' b) => if k = k' then (match eqCells P fs l m with | some r => some ((a == b) && r) | none => none) else none
    | some .bool, some (.bool a), some (.bool b) => (match eqCells P fs l m with | some r => some ((a == b) && r) | none => none)
    | some .string, some (.str a), some (.str b) => (match eqCells P fs l m with | some r => some (strEq a b && r) | none => none)
    | _, _, _ => none)
/-- A key of a map, as a cell. -/
def keyB : Bool → PS → Bool
  | true, .int .i64 _ => true
  | false, .str _ => true
  | _, _ => false
/-- What a map answers where there is no such key. -/
def zeroB (P : Program) (t : TypeId) (vi : Bool) : Bool := match P.info? t with
  | some i => (match i.zero with
    | some (.int .i64 n) => vi && n == 0
    | some (.bool b) => !vi && !b
    | _ => false)
  | none => false
/-- An operation that changes no memory. C: is it carried out? -/
def vq {α : Type} (P : Program) (L : Globs) (E : En) (G : List (Nat × Bool)) (C : Bool) (H : Heap) (o : Op) (k : PV → Option α) : Option α := match o with
  | .move x => (match opnd L E G x with | some v => k v | none => none)
  | .assign x => (match opnd L E G x with | some v => k v | none => none)
  | .binOp B t x y _ => (match opnd L E G x, opnd L E G y with
    | some (.one (.int k1 a)), some (.one (.int k2 b)) => if k1 = k2 then (match cmpOf B with
      | some f => k (.one (.bool (f a b)))
      | none => (match ariOf B with
        | some f => k (.one (.int k1 (k1.wrap (f a b))))
        | none => (match divOf k1 B with
          | some f => chk C (b != 0) (k (.one (.int k1 (f a b))))
          | none => none))) else none
    | some (.one (.bool a)), some (.one (.bool b)) => (match P.underlying t, B with
      | some .bool, .eql => k (.one (.bool (a == b)))
      | some .bool, .neq => k (.one (.bool (!(a == b))))
      | _, _ => none)
    | some (.one (.str a)), some (.one (.str b)) => (match B with
      | .eql => k (.one (.bool (strEq a b)))
      | .neq => k (.one (.bool (!strEq a b)))
      | .add => chk C (decide (a.size + b.size ≤ 9223372036854775807)) (k (.one (.str (a ++ b))))
      | _ => none)
    | some (.agg l), some (.agg m) => (match P.underlying t, eqB B with
      | some (.struct fs), some neg => if P.stoodInHeld t = false ∧ P.eqGuardType P.depth t = false then (match eqCells P fs.toList l m with | some r => k (.one (.bool (bif neg then !r else r))) | none => none) else none
      | _, _ => none)
    | some (.one (.view n _ _)), some (.one .nils) => (match P.underlying t, eqB B with
      | some (.slice _), some neg => chk C (decide (0 < n)) (k (.one (.bool neg)))
      | _, _ => none)
    | some (.one .nils), some (.one .nils) => (match P.underlying t, eqB B with
      | some (.slice _), some neg => k (.one (.bool (!neg)))
      | _, _ => none)
    | some (.one (.fi o i)), some (.one .nils) => (match P.underlying t, eqB B, findH H o with
      | some (.slice _), some neg, some (.inn _ _ _ st _ _) => k (.one (.bool (bif st i then neg else !neg)))
      | _, _, _ => none)
    | _, _ => none)
  | .unOp .not _ x => (match opnd L E G x with | some (.one (.bool b)) => k (.one (.bool (!b))) | _ => none)
  | .unOp .neg _ x => (match opnd L E G x with | some (.one (.int kd n)) => k (.one (.int kd (kd.wrap (0 - n)))) | _ => none)
  | .pick (.tmp s) x y => (match lookE E G s with
    | some (.one (.bool cb)) => (match opnd L E (G ++ gsOf E s true) x, opnd L E (G ++ gsOf E s false) y with
      | some p, some q => (match mergeV cb p q with
        | some v => k v
        | none => none)
      | _, _ => none)
    | _ => none)
  | .extract x i => (match opnd L E G x with | some (.tup l) => (match l[i]? with | some s => k s | none => none) | _ => none)
  | .load t x => (match opnd L E G x, kindOf P t with
    | some (.one (.ptr o off)), some false => (match findH H o with | some (.box cells) => (match cells[off]? with | some s => k (.one s) | none => none) | _ => none)
    | some (.one (.ptr o off)), some true => (match findH H o, sizeIn P t with | some (.box cells), some n => if ((cells.drop off).take n).length = n then k (.agg ((cells.drop off).take n)) else none | _, _ => none)
    | some (.one (.vp m cell off)), some false => chk C (decide (off < m)) (k (.one (cell off)))
    | some (.one (.vp m cell off)), some true => (match sizeIn P t with | some n => chk C (decide (off + n ≤ m)) (k (.agg ((List.range n).map fun j => cell (off + j)))) | none => none)
    | some (.one (.rp o e i off)), some false => (match findH H o with | some (.rows _ e' n row) => if e = e' then chk C (decide (i < n) && decide (off < e)) (k (.one (row i off))) else none | some (.out _ n b hole) => if e = 1 then chk C (decide (i < n) && (decide (off = 0) && holeB hole i)) (k (.one (.fi b i))) else none | _ => none)
    | some (.one (.rp o e i off)), some true => (match findH H o, sizeIn P t with | some (.rows _ e' n row), some sz => if e = e' then chk C (decide (i < n) && decide (off + sz ≤ e)) (k (.agg ((List.range sz).map fun j => row i (off + j)))) else none | _, _ => none)
    | some (.one (.fp o i e q off)), some false => (match findH H o with | some (.inn _ e' _ _ len row) => if e = e' then chk C (decide (q < len i) && decide (off < e)) (k (.one (row i q off))) else none | _ => none)
    | some (.one (.fp o i e q off)), some true => (match findH H o, sizeIn P t with | some (.inn _ e' _ _ len row), some sz => if e = e' then chk C (decide (q < len i) && decide (off + sz ≤ e)) (k (.agg ((List.range sz).map fun j => row i q (off + j)))) else none | _, _ => none)
    | some (.one .nilp), some false => (match zeroIn P t with | some [s] => chk C false (k (.one s)) | _ => none)
    | some (.one .nilp), some true => (match zeroIn P t with | some l => chk C false (k (.agg l)) | _ => none)
    | _, _ => none)
  | .fieldAddr t x i => (match opnd L E G x, P.underlying t with
    | some (.one (.ptr o off)), some (.struct fs) => (match fs[i]? with | some f => (match sizeIn P f.type with | some (_ + 1) => k (.one (.ptr o (off + f.offset))) | _ => none) | none => none)
    | some (.one (.vp m cell off)), some (.struct fs) => (match fs[i]? with | some f => (match sizeIn P f.type with | some (_ + 1) => k (.one (.vp m cell (off + f.offset))) | _ => none) | none => none)
    | some (.one (.rp o e q off)), some (.struct fs) => (match fs[i]? with | some f => (match sizeIn P f.type with | some (_ + 1) => k (.one (.rp o e q (off + f.offset))) | _ => none) | none => none)
    | some (.one (.fp o i1 e q off)), some (.struct fs) => (match fs[i]? with | some f => (match sizeIn P f.type with | some (_ + 1) => k (.one (.fp o i1 e q (off + f.offset))) | _ => none) | none => none)
    | some (.one .nilp), some (.struct _) => chk C false (k (.one .nilp))
    | _, _ => none)
  | .indexAddr t x y => (match opnd L E G x, opnd L E G y, P.underlying t with
    | some (.one (.os o)), some (.one (.int _ i)), some (.slice te) => (match findH H o with | some (.rows _ e n _) => if sizeIn P te = some e then chk C (decide (0 ≤ i) && decide (i < n)) (k (.one (.rp o e i.toNat 0))) else none | some (.out _ n _ _) => if sizeIn P te = some 1 then chk C (decide (0 ≤ i) && decide (i < n)) (k (.one (.rp o 1 i.toNat 0))) else none | _ => none)
    | some (.one (.fi o i1)), some (.one (.int _ i)), some (.slice te) => (match findH H o with | some (.inn _ e _ _ len _) => if sizeIn P te = some e then chk C (decide (0 ≤ i) && decide (i < len i1)) (k (.one (.fp o i1 e i.toNat 0))) else none | _ => none)
    | some (.one (.view n e row)), some (.one (.int _ i)), some (.slice te) => if sizeIn P te = some e then chk C (decide (0 ≤ i) && decide (i < n)) (k (.one (.vp e (row i.toNat) 0))) else none
    | some (.one (.ptr o off)), some (.one (.int _ i)), some (.array n te) => (match sizeIn P te with | some s => chk C (decide (0 ≤ i) && decide (i < n)) (k (.one (.ptr o (off + i.toNat * s)))) | none => none)
    | some (.one (.vp m cell off)), some (.one (.int _ i)), some (.array n te) => (match sizeIn P te with | some s => chk C (decide (0 ≤ i) && decide (i < n)) (k (.one (.vp m cell (off + i.toNat * s)))) | none => none)
    | some (.one .nils), some (.one (.int _ _)), some (.slice _) => chk C false (k (.one .nilp))
    | _, _, _ => none)
  | .field t x i => (match opnd L E G x, P.underlying t with
    | some (.agg l), some (.struct fs) => (match fs[i]? with
      | some f => (match kindOf P f.type, sizeIn P f.type with
        | some false, _ => (match l[f.offset]? with | some s => k (.one s) | none => none)
        | some true, some n => k (.agg ((l.drop f.offset).take n))
        | _, _ => none)
      | none => none)
    | _, _ => none)
  | .index t x y => (match opnd L E G x, opnd L E G y, P.underlying t with
    | some (.agg l), some (.one (.int _ i)), some (.array n te) => (match kindOf P te, sizeIn P te with
      | some false, some s => (match l[i.toNat * s]? with | some p => chk C (decide (0 ≤ i) && decide (i < n)) (k (.one p)) | none => none)
      | some true, some s => chk C (decide (0 ≤ i) && decide (i < n)) (k (.agg ((l.drop (i.toNat * s)).take s)))
      | _, _ => none)
    | some (.one (.str s)), some (.one (.int _ i)), some .string => chk C (decide (0 ≤ i) && decide (i < s.size)) (k (.one (.int .u8 (strAt s i))))
    | _, _, _ => none)
  | .nilCheck x => (match opnd L E G x with
    | some (.one (.ptr o off)) => k (.one (.ptr o off))
    | some (.one (.vp m cell off)) => k (.one (.vp m cell off))
    | some (.one (.rp o e q off)) => k (.one (.rp o e q off))
    | some (.one (.fp o i e q off)) => k (.one (.fp o i e q off))
    | some (.one .nilp) => chk C false (k (.one .nilp))
    | _ => none)
  | .build t parts => (match partsOf L E G parts.toList, zeroIn P t, placesIn P t with
    | some ps, some z, some pl => (match fillP pl z ps with | some l => k (.agg l) | none => none)
    | _, _, _ => none)
  | .makeFunc (.func f) ⟨[]⟩ caps => (match capsOf L E G caps.toList with | some l => k (.fn f l) | none => none)
  | .convert s t x => (match opnd L E G x, P.underlying s, P.underlying t with
    | some (.one (.int _ n)), some _, some (.int k') => k (.one (.int k' (k'.wrap n)))
    | _, _, _ => none)
  | .slice t x lo hi none => (match opnd L E G x, P.underlying t with
    | some (.one (.view n e row)), some (.slice te) => (match intOf L E G lo 0, intOf L E G hi n with
      | some l, some h => if sizeIn P te = some e then chk C (decide (0 ≤ l) && (decide (l ≤ h) && decide (h ≤ n))) (k (.one (.view (h.toNat - l.toNat) e (subRow lo l.toNat row)))) else none
      | _, _ => none)
    | some (.one .nils), some (.slice te) => (match intOf L E G lo 0, intOf L E G hi 0, sizeIn P te with
      | some l, some h, some _ => chk C (l == 0 && h == 0) (k (.one .nils))
      | _, _, _ => none)
    | some (.one (.str s)), some .string => (match intOf L E G lo 0, intOf L E G hi s.size with
      | some l, some h => chk C (decide (0 ≤ l) && (decide (l ≤ h) && decide (h ≤ s.size))) (k (.one (.str (strSub s l.toNat h.toNat))))
      | _, _ => none)
    | _, _ => none)
  | .call ⟨.builtin .len, ⟨[x]⟩, ⟨t :: _⟩⟩ => (match opnd L E G x, P.underlying t with
    | some (.one (.view n _ _)), some (.slice _) => k (.one (.int .i64 n))
    | some (.one .nils), some (.slice _) => k (.one (.int .i64 0))
    | some (.one (.os o)), some (.slice _) => (match findH H o with | some (.rows _ _ n _) => k (.one (.int .i64 n)) | some (.out _ n _ _) => k (.one (.int .i64 n)) | _ => none)
    | some (.one (.fi o i)), some (.slice _) => (match findH H o with | some (.inn _ _ _ _ len _) => k (.one (.int .i64 (len i))) | _ => none)
    | some (.one (.str s)), some .string => k (.one (.int .i64 s.size))
    | _, _ => none)
  | .call ⟨.builtin .min, ⟨[x, y]⟩, _⟩ => (match opnd L E G x, opnd L E G y with
    | some (.one (.int k1 a)), some (.one (.int k2 b)) => if k1 = k2 then k (.one (.int k1 (bif decide (b < a) then b else a))) else none
    | _, _ => none)
  | .call ⟨.builtin .max, ⟨[x, y]⟩, _⟩ => (match opnd L E G x, opnd L E G y with
    | some (.one (.int k1 a)), some (.one (.int k2 b)) => if k1 = k2 then k (.one (.int k1 (bif decide (b > a) then b else a))) else none
    | _, _ => none)
  | .call ⟨.builtin .max, ⟨[x, y, z, u]⟩, _⟩ => (match opnd L E G x, opnd L E G y, opnd L E G z, opnd L E G u with
    | some (.one (.int k1 a)), some (.one (.int k2 b)), some (.one (.int k3 c)), some (.one (.int k4 d)) => if k1 = k2 ∧ k1 = k3 ∧ k1 = k4 then k (.one (.int k1 (max (max (max a b) c) d))) else none
    | _, _, _, _ => none)
  | .lookup t x y false => (match opnd L E G x, opnd L E G y, P.underlying t with
    | some (.one (.os o)), some (.one s), some (.map kt et) => (match findH H o, P.underlying kt with
      | some (.mp ki vi val), some dk => if (kindM ki dk && (keyB ki s && zeroB P et vi)) = true then k (.one (val s)) else none
      | _, _ => none)
    | _, _, _ => none)
  | _ => none
abbrev Cls (w w' : World) : Prop := Below w.heap.size w w'
/-- A later world in which the blocks that are read, and those of the objects of H, stand. -/
structure Sees (w : World) (F : Nat → Prop) (β : Blocks) (H : Heap) (w' : World) : Prop where
  os : w'.os = w.os
  tape : w'.tape = w.tape
  output : w'.output = w.output
  size : w.heap.size ≤ w'.heap.size
  block : ∀ b, (F b ∨ ∃ o l u, (o, l) ∈ H ∧ β o = some u ∧ Blk u b) → w'.heap[b]? = w.heap[b]?
theorem Sees.cell {w w' : World} {F : Nat → Prop} {β : Blocks} {H : Heap} (h : Sees w F β H w') {b o : Nat} {v : Value} (hm : F b ∨ ∃ o l u, (o, l) ∈ H ∧ β o = some u ∧ Blk u b) (hv : w.cell? ⟨b, o, none⟩ = some v) : w'.cell? ⟨b, o, none⟩ = some v := by
  unfold World.cell? at hv ⊢
  rw [h.block b hm]; exact hv
theorem Sees.refl {w : World} {F : Nat → Prop} {β : Blocks} {H : Heap} : Sees w F β H w := ⟨rfl, rfl, rfl, Nat.le_refl _, fun _ _ => rfl⟩
theorem Sees.of {nb : Nat} {w w' : World} {F : Nat → Prop} {β : Blocks} {H : Heap} (hI : Inv nb w F β H) (h : Cls w w') : Sees w F β H w' := ⟨h.os, h.tape, h.output, h.size, fun b hb => h.block b (by
  rcases hb with hb | ⟨o, l, u, _, h1, h2⟩
  · exact hI.lt b hb
  · exact hI.ltβ o u b h1 h2)⟩
theorem Sees.step {w w' : World} {F : Nat → Prop} {β : Blocks} {H : Heap} (ok : Nat → Bool) (h : Sees w F β H w') : Step ok w F β w' F β := ⟨h.os, h.tape, h.output, h.size, fun b hb => ⟨hb, h.block b (.inl hb)⟩, fun _ _ _ he => he⟩
theorem Sees.later {w0 w w' : World} {F0 F F' : Nat → Prop} {β0 β β' : Blocks} {ok : Nat → Bool} (hF : ∀ b, F0 b → F b) (s : Step ok w F β w' F' β') (h : Sees w0 F0 β0 [] w) : Sees w0 F0 β0 [] w' := ⟨s.os.trans h.os, s.tape.trans h.tape, s.output.trans h.output, Nat.le_trans h.size s.size, fun b hb => by
  rcases hb with hb | ⟨_, _, _, hm, _⟩
  · exact (s.read b (hF b hb)).2.trans (h.block b (.inl hb))
  · cases hm⟩
theorem Sees.cls {w0 w w' : World} {F0 : Nat → Prop} {β0 : Blocks} (hlt : ∀ b, F0 b → b < w0.heap.size) (h : Sees w0 F0 β0 [] w) (c : Cls w w') : Sees w0 F0 β0 [] w' := ⟨c.os.trans h.os, c.tape.trans h.tape, c.output.trans h.output, Nat.le_trans h.size c.size, fun b hb => by
  rcases hb with hb | ⟨_, _, _, hm, _⟩
  · exact (c.block b (Nat.lt_of_lt_of_le (hlt b hb) h.size)).trans (h.block b (.inl hb))
  · cases hm⟩
section sound
variable {nb : Nat} {P : Program} {w : World} {F : Nat → Prop} {β : Blocks} {E : En} {G : List (Nat × Bool)} {L : Globs} {H : Heap} {a : Act}
/-- What is asked of one operation: a value that is as told, in every world where the blocks of this one that are seen stand. -/
def Gives (P : Program) (nb : Nat) (w : World) (F : Nat → Prop) (β : Blocks) (H : Heap) (a : Act) (o : Oper) (v : PV) : Prop := ∃ u, RN nb w F β v u ∧ ∀ w', Sees w F β H w' → (execOp a.eval o).run P w' = .ok (.value u) w'
theorem parts_ok (hL : okG w F L) (hE : okE nb w F β a.tmps E) (hG : holdsG a.tmps G) : ∀ {xs : List (Nat × Operand)} {vs : List (Nat × List PS)}, partsOf L E G xs = some vs → All2 (fun p q => p.1 = q.1 ∧ All2 (RS w F β) p.2 q.2.cells.toList ∧ p.2.all (okS (fun y => decide (y < nb))) = true) vs (xs.map fun p => (p.1, a.eval p.2)) := by
  intro xs
  induction xs with
  | nil => intro vs h; obtain rfl := Option.some.inj h; exact .nil
  | cons x xs ih =>
    obtain ⟨i, x⟩ := x
    intro vs h
    unfold partsOf at h
    split at h
    · rename_i v hv
      split at h
      · rename_i l r' hl hr
        obtain rfl := Option.some.inj h
        refine .cons ⟨rfl, ?_⟩ (ih hr)
        obtain ⟨h1, h2⟩ := opnd_ok hL hE hG hv
        cases v with
        | one s =>
          obtain rfl := Option.some.inj hl
          refine ⟨?_, by simpa [okV] using h2⟩
          have h1' : RS w F β s (a.eval x) := h1
          have : (a.eval x).cells.toList = [a.eval x] := by
            have := RS.one h1'
            generalize a.eval x = y at this
            cases y <;> simp_all [Value.cells, Value.oneCell']
          show All2 (RS w F β) [s] (a.eval x).cells.toList
          rw [this]
          exact .cons h1' .nil
        | agg l' =>
          obtain rfl := Option.some.inj hl
          obtain ⟨m, hm, h3⟩ := h1
          refine ⟨?_, h2⟩
          show All2 (RS w F β) l' (a.eval x).cells.toList
          rw [hm]; exact h3
        | tup _ => cases hl
        | fn _ _ => cases hl
      · cases h
    · cases h
theorem caps_ok (hL : okG w F L) (hE : okE nb w F β a.tmps E) (hG : holdsG a.tmps G) : ∀ {xs : List Operand} {vs : List PS}, capsOf L E G xs = some vs → All2 (RS w F β) vs (xs.map a.eval) ∧ vs.all (okS (fun y => decide (y < nb))) = true := by
  intro xs
  induction xs with
  | nil => intro vs h; obtain rfl := Option.some.inj h; exact ⟨.nil, rfl⟩
  | cons x xs ih =>
    intro vs h
    unfold capsOf at h
    split at h
    · rename_i s hv
      split at h
      · rename_i r' hr
        obtain rfl := Option.some.inj h
        obtain ⟨h1, h2⟩ := opnd_ok hL hE hG hv
        obtain ⟨h3, h4⟩ := ih hr
        exact ⟨.cons h1 h3, by rw [List.all_cons, h4]; simpa [okV] using h2⟩
      · cases h
    · cases h
theorem fold_set (l : List Value) : ∀ (off j : Nat) (cs : Array Value), off + j + l.length ≤ cs.size → ((l.zipIdx j).foldl (fun cs (p : Value × Nat) => cs.setIfInBounds (off + p.2) p.1) cs).toList = cs.toList.take (off + j) ++ l ++ cs.toList.drop (off + j + l.length) := by
  induction l with
  | nil => intro off j cs _; simp
  | cons v l ih =>
    intro off j cs h
    simp only [List.length_cons] at h
    simp only [List.zipIdx_cons, List.foldl_cons]
    rw [ih off (j + 1) _ (by simp; omega)]
    have hj : off + j < cs.toList.length := by simp; omega
    simp only [Array.toList_setIfInBounds, List.length_cons]
    rw [List.set_eq_take_append_cons_drop, if_pos hj]
    have hl : (cs.toList.take (off + j)).length = off + j := by rw [List.length_take]; omega
    rw [show off + (j + 1) = (cs.toList.take (off + j)).length + 1 by omega, List.take_length_add_append, List.take_succ_cons, List.take_zero]
    rw [show (cs.toList.take (off + j)).length + 1 + l.length = (cs.toList.take (off + j)).length + (1 + l.length) by omega, List.drop_length_add_append, Nat.add_comm 1, List.drop_succ_cons, List.drop_drop]
    simp [Nat.add_assoc, Nat.add_comm 1]
theorem fill_ok {pl pl' : Nat → Option (Nat × Nat)} (hp : ∀ i, pl i = pl' i) : ∀ {ps : List (Nat × List PS)} {vs : List (Nat × Value)}, All2 (fun p q => p.1 = q.1 ∧ All2 (RS w F β) p.2 q.2.cells.toList ∧ p.2.all (okS (fun y => decide (y < nb))) = true) ps vs →
    ∀ {z l : List PS} {cs : Array Value}, All2 (RS w F β) z cs.toList → z.all (okS (fun y => decide (y < nb))) = true → fillP pl z ps = some l → ∃ arr, Instr.fill pl' cs vs = some arr ∧ All2 (RS w F β) l arr.toList ∧ l.all (okS (fun y => decide (y < nb))) = true := by
  intro ps vs h
  induction h with
  | nil => intro z l cs h1 h2 h3; obtain rfl := Option.some.inj h3; exact ⟨cs, rfl, h1, h2⟩
  | @cons p q ps vs hpq _ ih =>
    obtain ⟨i, v⟩ := p
    obtain ⟨i', u⟩ := q
    obtain ⟨h4, h5, h6⟩ := hpq
    obtain rfl : i = i' := h4
    intro z l cs h1 h2 h3
    unfold fillP at h3
    unfold Instr.fill
    rw [← hp]
    split at h3
    · cases h3
    · rename_i off size hpl
      rw [hpl]
      simp only at h5 h6 ⊢
      have e1 : u.cells.size = v.length := by have := h5.length; simp at this; omega
      have e2 : cs.size = z.length := by have := h1.length; simp at this; omega
      rw [e1, e2]
      split at h3
      · cases h3
      · rename_i hc
        rw [if_neg hc]
        simp only [ne_eq, Bool.or_eq_true, decide_eq_true_eq, not_or, Decidable.not_not, gt_iff_lt, Nat.not_lt] at hc
        have e3 : ((u.cells.zipIdx.foldl (fun cs (x : Value × Nat) => cs.setIfInBounds (off + x.2) x.1) cs)).toList = cs.toList.take off ++ u.cells.toList ++ cs.toList.drop (off + u.cells.toList.length) := by
          have := fold_set u.cells.toList off 0 cs (by simp; omega)
          simp only [Nat.add_zero] at this
          rw [← this, ← Array.foldl_toList, Array.toList_zipIdx]
        refine ih (cs := u.cells.zipIdx.foldl (fun cs (x : Value × Nat) => cs.setIfInBounds (off + x.2) x.1) cs) ?_ ?_ h3
        · rw [e3]
          refine ((h1.take _).app h5).app ?_
          have e4 : u.cells.toList.length = v.length := by simpa using e1
          rw [e4]
          exact h1.drop _
        · simp only [List.all_append, Bool.and_eq_true]
          refine ⟨⟨?_, h6⟩, ?_⟩ <;> rw [List.all_eq_true] at h2 ⊢ <;> intro x hx
          · exact h2 x (List.mem_of_mem_take hx)
          · exact h2 x (List.mem_of_mem_drop hx)
theorem const_list : ∀ {l : List Value} {r : List PS}, l.mapM constV = some r → All2 (RS w F β) r l ∧ r.all (okS (fun y => decide (y < nb))) = true := by
  intro l
  induction l with
  | nil => intro r h; simp at h; subst h; exact ⟨.nil, rfl⟩
  | cons x l ih =>
    intro r h
    simp only [List.mapM_cons, Option.bind_eq_bind, Option.bind_eq_some_iff, Option.pure_def, Option.some.injEq] at h
    obtain ⟨s, hs, r', hr, rfl⟩ := h
    obtain ⟨h1, h2⟩ := const_ok (w := w) (F := F) (β := β) hs
    obtain ⟨h3, h4⟩ := ih hr
    exact ⟨.cons h1 h3, by rw [List.all_cons, h4, okS_noPtr h2]; rfl⟩
theorem zero_ok {t : TypeId} {z : List PS} (h : zeroIn P t = some z) : ∃ i v, P.info? t = some i ∧ i.zero = some v ∧ All2 (RS w F β) z v.cells.toList ∧ z.all (okS (fun y => decide (y < nb))) = true := by
  unfold zeroIn at h
  split at h
  · rename_i i hi
    split at h
    · rename_i v hv
      obtain ⟨h1, h2⟩ := const_list (nb := nb) (w := w) (F := F) (β := β) h
      exact ⟨i, v, hi, hv, h1, h2⟩
    · cases h
  · cases h
theorem built_ok {t : TypeId} {z l : List PS} {pl : Nat → Option (Nat × Nat)} {ps : List (Nat × List PS)} {vs : List (Nat × Value)} (hps : All2 (fun p q => p.1 = q.1 ∧ All2 (RS w F β) p.2 q.2.cells.toList ∧ p.2.all (okS (fun y => decide (y < nb))) = true) ps vs) (hz : zeroIn P t = some z) (hp : placesIn P t = some pl) (hf : fillP pl z ps = some l) :
    ∃ arr, P.built t vs = some arr ∧ All2 (RS w F β) l arr.toList ∧ l.all (okS (fun y => decide (y < nb))) = true := by
  obtain ⟨i, v, hi, hv, h1, h2⟩ := zero_ok (nb := nb) (w := w) (F := F) (β := β) hz
  unfold placesIn at hp
  unfold Program.built
  rw [hi]
  split at hp
  · rename_i n e hu
    rw [hu]
    split at hp
    · rename_i s hs
      obtain rfl := Option.some.inj hp
      obtain ⟨ie, h3, h4⟩ := Option.map_eq_some_iff.1 hs
      simp only [hv, h3]
      subst h4
      exact fill_ok (fun _ => rfl) hps h1 h2 hf
    · cases hp
  · rename_i fields hu
    rw [hu]
    split at hp
    · rename_i places hs
      obtain rfl := Option.some.inj hp
      simp only [hv, hs]
      exact fill_ok (fun i => by simp) hps h1 h2 hf
    · cases hp
  · cases hp
theorem RV_ptr {o off : Nat} {u : Value} (h : RV w F β (.one (.ptr o off)) u) : ∃ b, β o = some (.pointer (some ⟨b, 0, none⟩)) ∧ u = .pointer (some ⟨b, off, none⟩) := h
theorem ptr_inj {o b b' : Nat} (h : β o = some (.pointer (some ⟨b, 0, none⟩))) (h' : β o = some (.pointer (some ⟨b', 0, none⟩))) : b = b' := by
  rw [h] at h'; cases h'; rfl
theorem RV_os {o : Nat} {u : Value} (h : RV w F β (.one (.os o)) u) : β o = some u ∧ hdrV u = true := h
theorem RV_rp {o e i off : Nat} {u : Value} (h : RV w F β (.one (.rp o e i off)) u) : ∃ b n c, β o = some (.slice (some ⟨b, 0, none⟩) n c) ∧ u = .pointer (some ⟨b, i * e + off, none⟩) := h
/-- A cell of an own row. -/
theorem row_cell {o t e n b n' c : Nat} {row : Nat → Nat → PS} (hO : okOB nb w F β o (.rows t e n row)) (hb : β o = some (.slice (some ⟨b, 0, none⟩) n' c)) {i j : Nat} (hi : i < n) (hj : j < e) : ∃ u, w.cell? ⟨b, i * e + j, none⟩ = some u ∧ RF w F (row i j) u := by
  obtain ⟨v, xs, h1, h2, h3⟩ := hO
  obtain ⟨u, h4, h5⟩ := h3 i j hi hj
  refine ⟨u, ?_, h5⟩
  rw [hb] at h1
  obtain rfl := Option.some.inj h1
  rcases h2.2 with ⟨h6, _⟩ | ⟨g, cap, cur, h6, _, h7, _, _, _, h8⟩
  · cases h6
  · cases h6
    rw [cell_of_row w b (i * e + j) cur t (0, 0) h7]
    rw [← h8, List.getElem?_take] at h4
    split at h4
    · simpa using h4
    · cases h4
theorem row_len {o t e n : Nat} {row : Nat → Nat → PS} {u : Value} (hO : okOB nb w F β o (.rows t e n row)) (hb : β o = some u) : ∃ A c, u = .slice A n c ∧ (n ≤ c ∧ (0 < n → ∃ b, A = some ⟨b, 0, none⟩)) := by
  obtain ⟨v, xs, h1, h2, h3⟩ := hO
  rw [hb] at h1
  obtain rfl := Option.some.inj h1
  rcases h2.2 with ⟨h6, h7⟩ | ⟨g, cap, cur, h6, _, _, h8, _⟩
  · exact ⟨none, 0, by rw [h6, h7], by omega, fun h => by omega⟩
  · exact ⟨_, cap, h6, h8, fun _ => ⟨g, rfl⟩⟩
/-- A row of a bundle. -/
theorem RV_fi {o i : Nat} {u : Value} (h : RV w F β (.one (.fi o i)) u) : ∃ l : List Value, β o = some (.tuple l.toArray) ∧ l[i]? = some u ∧ hdrV u = true := h
theorem RV_fp {o i e k off : Nat} {u : Value} (h : RV w F β (.one (.fp o i e k off)) u) : ∃ (l : List Value) (b n c : Nat), β o = some (.tuple l.toArray) ∧ l[i]? = some (.slice (some ⟨b, 0, none⟩) n c) ∧ u = .pointer (some ⟨b, k * e + off, none⟩) := h
theorem tup_inj {o : Nat} {l l' : List Value} (h : β o = some (.tuple l.toArray)) (h' : β o = some (.tuple l'.toArray)) : l = l' := by
  rw [h] at h'
  injection h' with h'
  injection h' with h'
  exact List.toArray_inj h'
theorem Blk_tup {l : List Value} {i : Nat} {u : Value} {b : Nat} (h : l[i]? = some u) (hb : blk u = some b) : Blk (.tuple l.toArray) b := ⟨u, by simpa using List.mem_of_getElem? h, hb⟩
theorem Blk_of {u : Value} {b : Nat} (h : blk u = some b) : Blk u b := by
  unfold Blk
  split
  · cases h
  · exact h
theorem Blk_eq {u : Value} {k b : Nat} (h : blk u = some k) (hb : Blk u b) : k = b := by
  unfold Blk at hb
  split at hb
  · cases h
  · rw [h] at hb; exact Option.some.inj hb
theorem fam_cell {o t e n i b n' c : Nat} {st : Nat → Bool} {len : Nat → Nat} {row : Nat → Nat → Nat → PS} {l : List Value} (hO : okOB nb w F β o (.inn t e n st len row)) (hb : β o = some (.tuple l.toArray)) (hl : l[i]? = some (.slice (some ⟨b, 0, none⟩) n' c)) {q j : Nat} (hq : q < len i) (hj : j < e) : ∃ u, w.cell? ⟨b, q * e + j, none⟩ = some u ∧ RF w F (row i q j) u := by
  obtain ⟨l', h1, _, h2, _⟩ := hO
  obtain rfl := tup_inj hb h1
  obtain ⟨_, _, xs, h3, h4⟩ := h2 i _ hl
  obtain ⟨u, h5, h6⟩ := h4 q j hq hj
  refine ⟨u, ?_, h6⟩
  rcases h3.2 with ⟨h6, _⟩ | ⟨g, cap, cur, h6, _, h7, _, _, _, h8⟩
  · cases h6
  · cases h6
    rw [cell_of_row w b (q * e + j) cur t (0, 0) h7]
    rw [← h8, List.getElem?_take] at h5
    split at h5
    · simpa using h5
    · cases h5
theorem fam_len {o t e n i : Nat} {st : Nat → Bool} {len : Nat → Nat} {row : Nat → Nat → Nat → PS} {u : Value} (hO : okOB nb w F β o (.inn t e n st len row)) (h : RV w F β (.one (.fi o i)) u) : (st i = false → u = .slice none 0 0) ∧ ∃ A c, u = .slice A (len i) c ∧ (len i ≤ c ∧ ((0 < len i ∨ st i = true) → ∃ b, A = some ⟨b, 0, none⟩)) := by
  obtain ⟨l, h0, hu, _⟩ := RV_fi h
  obtain ⟨l', h1, _, h2, _⟩ := hO
  obtain rfl := tup_inj h0 h1
  obtain ⟨q1, q2, xs, h3, h4⟩ := h2 i _ hu
  refine ⟨q1, ?_⟩
  rcases h3.2 with ⟨h6, h7⟩ | ⟨g, cap, cur, h6, _, _, h8, _⟩
  · refine ⟨none, 0, by rw [h6, h7], by omega, fun h => ?_⟩
    rcases h with h | h
    · omega
    · obtain ⟨b, hb⟩ := q2 h
      rw [h6] at hb; cases hb
  · exact ⟨_, cap, h6, h8, fun _ => ⟨g, rfl⟩⟩
theorem out_cell {o t n bn : Nat} {hole : Option Nat} {b n' c : Nat} (hO : okOB nb w F β o (.out t n bn hole)) (hb : β o = some (.slice (some ⟨b, 0, none⟩) n' c)) {i : Nat} (hi : i < n) (hh : holeB hole i = true) : ∃ u, w.cell? ⟨b, i * 1 + 0, none⟩ = some u ∧ RN nb w F β (.one (.fi bn i)) u := by
  obtain ⟨hlt, v, xs, l, h1, h2, h3, h4, h5, h6⟩ := hO
  have hne : hole ≠ some i := by
    rintro rfl
    simp [holeB] at hh
  have h7 := h6 i hi hne
  obtain ⟨u, hu⟩ : ∃ u, l[i]? = some u := ⟨l[i]'(by omega), List.getElem?_eq_getElem (by omega)⟩
  refine ⟨u, ?_, ⟨⟨l, h3, hu, h5 u (List.mem_of_getElem? hu)⟩, by simpa [okV, okS] using hlt⟩⟩
  rw [hb] at h1
  obtain rfl := Option.some.inj h1
  rcases h2.2 with ⟨h8, _⟩ | ⟨g, cap, cur, h8, _, h9, _, _, _, h10⟩
  · cases h8
  · cases h8
    rw [cell_of_row w b (i * 1 + 0) cur t (0, 0) h9]
    rw [hu, ← h10, List.getElem?_take] at h7
    split at h7
    · simpa using h7
    · cases h7
theorem out_len {o t n bn : Nat} {hole : Option Nat} {u : Value} (hO : okOB nb w F β o (.out t n bn hole)) (hb : β o = some u) : ∃ A c, u = .slice A n c ∧ (n ≤ c ∧ (0 < n → ∃ b, A = some ⟨b, 0, none⟩)) := by
  obtain ⟨_, v, xs, l, h1, h2, _⟩ := hO
  rw [hb] at h1
  obtain rfl := Option.some.inj h1
  rcases h2.2 with ⟨h6, h7⟩ | ⟨g, cap, cur, h6, _, _, h8, _⟩
  · exact ⟨none, 0, by rw [h6, h7], by omega, fun h => by omega⟩
  · exact ⟨_, cap, h6, h8, fun _ => ⟨g, rfl⟩⟩
theorem RV_vp {m off : Nat} {cell : Nat → PS} {u : Value} (h : RV w F β (.one (.vp m cell off)) u) : ∃ (b off0 : Nat) (val : Nat → Value), u = .pointer (some ⟨b, off0 + off, none⟩) ∧ F b ∧ (∀ j, j < m → w.cell? ⟨b, off0 + j, none⟩ = some (val j)) ∧ (∀ j, j < m → RF w F (cell j) (val j)) := by
  have h' : RF w F (.vp m cell off) u := h
  cases h' with
  | vp _ _ b off0 _ val h1 h2 h3 => exact ⟨b, off0, val, rfl, h1, h2, h3⟩
theorem RV_view {n e : Nat} {row : Nat → Nat → PS} {u : Value} (h : RV w F β (.one (.view n e row)) u) : ∃ (A : Option Addr) (c : Nat), u = .slice A n c ∧ n ≤ c ∧ (0 < n → ∃ (b off : Nat) (val : Nat → Nat → Value), A = some ⟨b, off, none⟩ ∧ F b ∧ (∀ i j, i < n → j < e → w.cell? ⟨b, off + (i * e + j), none⟩ = some (val i j)) ∧ (∀ i j, i < n → j < e → RF w F (row i j) (val i j))) := by
  have h' : RF w F (.view n e row) u := h
  cases h' with
  | view0 e row A c => exact ⟨A, c, rfl, Nat.zero_le _, fun h => absurd h (Nat.lt_irrefl 0)⟩
  | view n e row b off c val h0 hnc h1 h2 h3 => exact ⟨_, c, rfl, hnc, fun _ => ⟨b, off, val, rfl, h1, h2, h3⟩⟩
theorem RF.toRN {s : PS} {v : Value} (h : RF w F s v) : RN nb w F β (.one s) v := by
  have h1 : noPtr s = true := by cases h <;> rfl
  exact ⟨(RS_of h1).2 h, okS_noPtr h1 _⟩
theorem RN_tup {l : List PV} {u : Value} (h : RN nb w F β (.tup l) u) {i : Nat} {s : PV} (hs : l[i]? = some s) : ∃ m v, u = .tuple m ∧ m[i]? = some v ∧ RN nb w F β s v := by
  obtain ⟨⟨m, rfl, h1⟩, h2⟩ := h
  obtain ⟨v, h3, h4⟩ := h1.get hs
  exact ⟨_, v, rfl, by simpa using h3, h4.up, okV1.up (List.all_eq_true.1 h2 s (List.mem_of_getElem? hs))⟩
theorem all_drop_take {p : PS → Bool} {l : List PS} (h : l.all p = true) (a b : Nat) : ((l.drop a).take b).all p = true := by
  rw [List.all_eq_true] at h ⊢
  exact fun x hx => h x (List.mem_of_mem_drop (List.mem_of_mem_take hx))
theorem merge_ok {cb : Bool} {p q v : PV} {x y : Value} (h : mergeV cb p q = some v) (hp : cb = true → RN nb w F β p x) (hq : cb = false → RN nb w F β q y) : RN nb w F β v (if cb = true then x else y) := by
  unfold mergeV at h
  split at h
  · obtain rfl := Option.some.inj h
    cases cb with
    | true => rw [if_pos rfl]; exact hp rfl
    | false => rw [if_neg (by decide)]; exact hq rfl
  · split at h
    · rename_i hk
      subst hk
      obtain rfl := Option.some.inj h
      cases cb with
      | true => rw [if_pos rfl]; exact hp rfl
      | false => rw [if_neg (by decide)]; exact hq rfl
    · cases h
  · cases h
theorem run_part_int {f : Field} {xs : Array Value} {v : Value} {d : TypeDesc} (hu : P.underlying f.type = some d) (hd : d.isRow = false) (hv : xs[f.offset]? = some v) (w : World) : (part f.type xs f.offset).run P w = .ok v w := by
  have hagg : (isAgg f.type).run P w = .ok false w := by
    unfold isAgg
    rw [Sem.run_bind, run_underlying hu w]
    cases d <;> simp_all [TypeDesc.isRow]
  simp [part, Sem.run_bind, hagg, hv]
theorem eqCells_ok {l m : List PS} {ls ms : List Value} : ∀ {fs : List Field} {r : Bool}, eqCells P fs l m = some r → All2 (RS w F β) l ls → All2 (RS w F β) m ms → ∀ (d : Nat) (w' : World), (Op.eqFields (d + 1) ls.toArray ms.toArray fs).run P w' = .ok r w' := by
  intro fs
  induction fs with
  | nil => intro r h _ _ d w'; obtain rfl := Option.some.inj h; simp [Op.eqFields]
  | cons f fs ih =>
    intro r h h1 h2 d w'
    unfold eqCells at h
    split at h
    case isTrue => cases h
    rename_i hn
    have hn' : f.name ≠ "_" := by simpa using hn
    split at h
    · rename_i k0 k a k' b hu hl hm
      split at h
      case isFalse => cases h
      rename_i hk
      subst hk
      split at h
      · rename_i r' hr'
        obtain rfl := Option.some.inj h
        obtain ⟨u, q1, q2⟩ := h1.get hl
        obtain ⟨u', q3, q4⟩ := h2.get hm
        have e1 : u = .int k a := RV_int (w := w) (F := F) (β := β) q2
        have e2 : u' = .int k b := RV_int (w := w) (F := F) (β := β) q4
        subst e1 e2
        rw [Op.eqFields]
        simp only [if_pos hn', Sem.run_bind, run_part_int hu rfl (by simpa using q1 : ls.toArray[f.offset]? = _) w', run_part_int hu rfl (by simpa using q3 : ms.toArray[f.offset]? = _) w', run_equalIn_int w' d f.type k k0 a b hu, Result.andThen_ok]
        have := ih hr' h1 h2 d w'
        cases a == b
        · simp
        · simpa using this
      · cases h
    · rename_i a b hu hl hm
      split at h
      · rename_i r' hr'
        obtain rfl := Option.some.inj h
        obtain ⟨u, q1, q2⟩ := h1.get hl
        obtain ⟨u', q3, q4⟩ := h2.get hm
        have e1 : u = .bool a := RV_bool (w := w) (F := F) (β := β) q2
        have e2 : u' = .bool b := RV_bool (w := w) (F := F) (β := β) q4
        subst e1 e2
        rw [Op.eqFields]
        simp only [if_pos hn', Sem.run_bind, run_part_int hu rfl (by simpa using q1 : ls.toArray[f.offset]? = _) w', run_part_int hu rfl (by simpa using q3 : ms.toArray[f.offset]? = _) w', run_equalIn_bool' w' d f.type a b hu, Result.andThen_ok]
        have := ih hr' h1 h2 d w'
        cases a == b
        · simp
        · simpa using this
      · cases h
    · rename_i a b hu hl hm
      split at h
      · rename_i r' hr'
        obtain rfl := Option.some.inj h
        obtain ⟨u, q1, q2⟩ := h1.get hl
        obtain ⟨u', q3, q4⟩ := h2.get hm
        have e1 : u = .string a := RV_str (w := w) (F := F) (β := β) q2
        have e2 : u' = .string b := RV_str (w := w) (F := F) (β := β) q4
        subst e1 e2
        rw [Op.eqFields]
        simp only [if_pos hn', Sem.run_bind, run_part_int hu rfl (by simpa using q1 : ls.toArray[f.offset]? = _) w', run_part_int hu rfl (by simpa using q3 : ms.toArray[f.offset]? = _) w', run_equalIn_string w' d f.type a b hu, Result.andThen_ok]
        have := ih hr' h1 h2 d w'
        unfold strEq
        cases a.toList == b.toList
        · simp
        · simpa using this
      · cases h
    · cases h
theorem ex_eqs {ρ : Operand → Value} {dst : Option Tmp} {ty : TypeId} {pos : String} {after : Array Edge} {guard : Option (Nat × Bool)} {B : BinOp} {neg : Bool} {x y : Operand} {t t2 : TypeId} {fs : Array Field} {ls ms : List Value} {r : Bool} {w' : World} (hB : eqB B = some neg) (ht : P.underlying t = some (.struct fs)) (hp : P.stoodInHeld t = false) (hg : P.eqGuardType P.depth t = false) (hx : ρ x = .agg ls.toArray) (hy : ρ y = .agg ms.toArray) (h : ∀ (d : Nat) (w' : World), (Op.eqFields (d + 1) ls.toArray ms.toArray fs.toList).run P w' = .ok r w') : (execOp ρ ⟨dst, .binOp B t x y t2, ty, pos, after, guard⟩).run P w' = .ok (.value (.bool (bif neg then !r else r))) w' := by
  have hf : P.fieldsOf t = fs := by simp [Program.fieldsOf, ht]
  have he : (Op.equalIn 10000 t (.agg ls.toArray) (.agg ms.toArray)).run P w' = .ok r w' := by
    rw [run_equalIn_struct (P := P) w' 9999 t _ _ (by rw [hf]; exact ht) hp, hf]
    exact h 9998 w'
  cases B <;> simp only [eqB, Option.some.injEq, reduceCtorEq] at hB <;> subst hB
  · simp [execOp, hx, hy, Sem.run_bind, run_eqGuard_agg w' .eql t x y _ _ hg, run_eql_struct, he]
  · simp [execOp, hx, hy, Sem.run_bind, run_eqGuard_agg w' .neq t x y _ _ hg, run_neq_struct, he]
theorem ex_eqnil {ρ : Operand → Value} {dst : Option Tmp} {ty : TypeId} {pos : String} {after : Array Edge} {guard : Option (Nat × Bool)} {B : BinOp} {neg : Bool} {x y : Operand} {t t2 te : TypeId} {A : Option Addr} {n c : Nat} {w' : World} (hB : eqB B = some neg) (ht : P.underlying t = some (.slice te)) (hx : ρ x = .slice A n c) (hy : ρ y = .slice none 0 0) : (execOp ρ ⟨dst, .binOp B t x y t2, ty, pos, after, guard⟩).run P w' = .ok (.value (.bool (bif neg then !A.isNone else A.isNone))) w' := by
  have h := run_equal_slice_nil w' t te A n c ht
  cases B <;> simp only [eqB, Option.some.injEq, reduceCtorEq] at hB <;> subst hB
  · have h2 : (binOp .eql t (.slice A n c) (.slice none 0 0)).run P w' = .ok (.bool A.isNone) w' := by
      simp only [binOp]
      simp [h]
    simp [execOp, hx, hy, eqGuard, h2]
  · have h2 : (binOp .neq t (.slice A n c) (.slice none 0 0)).run P w' = .ok (.bool (!A.isNone)) w' := by
      simp only [binOp]
      simp [h]
    simp [execOp, hx, hy, eqGuard, h2]
theorem ex_notnil {ρ : Operand → Value} {dst : Option Tmp} {ty : TypeId} {pos : String} {after : Array Edge} {guard : Option (Nat × Bool)} {B : BinOp} {neg : Bool} {x y : Operand} {t t2 te : TypeId} {ad : Addr} {n c : Nat} {w' : World} (hB : eqB B = some neg) (ht : P.underlying t = some (.slice te)) (hx : ρ x = .slice (some ad) n c) (hy : ρ y = .slice none 0 0) : (execOp ρ ⟨dst, .binOp B t x y t2, ty, pos, after, guard⟩).run P w' = .ok (.value (.bool neg)) w' := by
  rw [ex_eqnil hB ht hx hy]
  cases neg <;> rfl
theorem ex_nilnil {ρ : Operand → Value} {dst : Option Tmp} {ty : TypeId} {pos : String} {after : Array Edge} {guard : Option (Nat × Bool)} {B : BinOp} {neg : Bool} {x y : Operand} {t t2 te : TypeId} {w' : World} (hB : eqB B = some neg) (ht : P.underlying t = some (.slice te)) (hx : ρ x = .slice none 0 0) (hy : ρ y = .slice none 0 0) : (execOp ρ ⟨dst, .binOp B t x y t2, ty, pos, after, guard⟩).run P w' = .ok (.value (.bool (!neg))) w' := by
  rw [ex_eqnil hB ht hx hy]
  cases neg <;> rfl
end sound
end Go.Proofs.Ytobfnncpjkeloaa.Ev
