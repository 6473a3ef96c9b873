import Derived.Test.YtobfnncpjkeloaaEv
namespace Go.Proofs.Ytobfnncpjkeloaa.Ev
open Go Go.Proofs.YtobfnncpjkeloaaW.PrintLast
/-! #### one operation that changes no memory -/
def cmpOf : BinOp → Option (Int → Int → Bool)
  | .eql => some fun a b => a == b
  | .neq => some fun a b => a != b
  | .lss => some fun a b => decide (a < b)
  | .leq => some fun a b => decide (a ≤ b)
  | .gtr => some fun a b => decide (a > b)
  | .geq => some fun a b => decide (a ≥ b)
  | _ => none
def ariOf : BinOp → Option (Int → Int → Int)
  | .add => some fun a b => a + b
  | .sub => some fun a b => a - b
  | .mul => some fun a b => a * b
  | _ => none
def divOf (k : IntKind) : BinOp → Option (Int → Int → Int)
  | .quo => some fun a b => k.wrap (a.tdiv b)
  | .rem => some fun a b => a.tmod b
  | _ => none
section run
variable {P : Program} {ρ : Operand → Value} {w : World} {dst : Option Tmp} {ty : TypeId} {pos : String} {after : Array Edge} {guard : Option (Nat × Bool)}
theorem ex_pick {c x y : Operand} {b : Bool} {v : Value} (h : ρ c = .bool b) (hv : (if b = true then ρ x else ρ y) = v) : (execOp ρ ⟨dst, .pick c x y, ty, pos, after, guard⟩).run P w = .ok (.value v) w := by
  subst hv
  cases b <;> simp [execOp, h, go_sem, asBool]
theorem ex_cmp {B : BinOp} {f : Int → Int → Bool} {x y : Operand} {t t2 : TypeId} {k : IntKind} {a b : Int} (hf : cmpOf B = some f) (h : ρ x = .int k a) (h2 : ρ y = .int k b) : (execOp ρ ⟨dst, .binOp B t x y t2, ty, pos, after, guard⟩).run P w = .ok (.value (.bool (f a b))) w := by
  cases B <;> simp only [cmpOf, Option.some.injEq, reduceCtorEq] at hf <;> subst hf <;> simp [execOp, h, h2, go_sem]
theorem ex_ari {B : BinOp} {f : Int → Int → Int} {x y : Operand} {t t2 : TypeId} {k : IntKind} {a b : Int} (hf : ariOf B = some f) (h : ρ x = .int k a) (h2 : ρ y = .int k b) : (execOp ρ ⟨dst, .binOp B t x y t2, ty, pos, after, guard⟩).run P w = .ok (.value (.int k (k.wrap (f a b)))) w := by
  cases B <;> simp only [ariOf, Option.some.injEq, reduceCtorEq] at hf <;> subst hf <;> simp [execOp, h, h2, go_sem, binOp, Op.intArith]
theorem ex_div {B : BinOp} {f : Int → Int → Int} {x y : Operand} {t t2 : TypeId} {k : IntKind} {a b : Int} (hf : divOf k B = some f) (h : ρ x = .int k a) (h2 : ρ y = .int k b) (hb : (b != 0) = true) : (execOp ρ ⟨dst, .binOp B t x y t2, ty, pos, after, guard⟩).run P w = .ok (.value (.int k (f a b))) w := by
  have hb' : b ≠ 0 := by simpa using hb
  cases B <;> simp only [divOf, Option.some.injEq, reduceCtorEq] at hf <;> subst hf <;> simp [execOp, h, h2, go_sem, binOp, Op.intDiv, hb']
theorem ex_not {x : Operand} {t : TypeId} {b : Bool} (h : ρ x = .bool b) : (execOp ρ ⟨dst, .unOp .not t x, ty, pos, after, guard⟩).run P w = .ok (.value (.bool (!b))) w := by
  simp [execOp, h, go_sem]
theorem ex_neg {x : Operand} {t : TypeId} {k : IntKind} {n : Int} (h : ρ x = .int k n) : (execOp ρ ⟨dst, .unOp .neg t x, ty, pos, after, guard⟩).run P w = .ok (.value (.int k (k.wrap (0 - n)))) w := by
  simp [execOp, h, Op.unary, Op.intArith]
theorem ex_extract {x : Operand} {i : Nat} {l : Array Value} {v : Value} (h : ρ x = .tuple l) (h2 : l[i]? = some v) : (execOp ρ ⟨dst, .extract x i, ty, pos, after, guard⟩).run P w = .ok (.value v) w := by
  simp [execOp, h, h2, go_sem]
theorem ex_convert {x : Operand} {s t : TypeId} {k k' : IntKind} {n : Int} {d : TypeDesc} (h : ρ x = .int k n) (hs : P.underlying s = some d) (ht : P.underlying t = some (.int k')) : (execOp ρ ⟨dst, .convert s t x, ty, pos, after, guard⟩).run P w = .ok (.value (.int k' (k'.wrap n))) w := by
  simp [execOp, h, convert, Sem.run_bind, run_underlying hs, run_underlying ht, Conv.intToInt]
theorem ex_nilCheck {x : Operand} {ad : Addr} (h : ρ x = .pointer (some ad)) : (execOp ρ ⟨dst, .nilCheck x, ty, pos, after, guard⟩).run P w = .ok (.value (.pointer (some ad))) w := by
  simp [execOp, h]
theorem ex_load_one {x : Operand} {t : TypeId} {ad : Addr} {d : TypeDesc} {v : Value} (h : ρ x = .pointer (some ad)) (ht : P.underlying t = some d) (hd : d.isRow = false) (hv : w.cell? ad = some v) : (execOp ρ ⟨dst, .load t x, ty, pos, after, guard⟩).run P w = .ok (.value v) w := by
  have hagg : (isAgg t).run P w = .ok false w := by
    unfold isAgg
    rw [Sem.run_bind, run_underlying ht w]
    cases d <;> simp_all [TypeDesc.isRow]
  simp [execOp, h, Instr.loadAt, Instr.sureAddr, loadVar, Sem.run_bind, hagg, load, Sem.run, hv]
theorem ex_load_agg {x : Operand} {t : TypeId} {b o : Nat} {d : TypeDesc} {cs : List Value} (h : ρ x = .pointer (some ⟨b, o, none⟩)) (ht : P.underlying t = some d) (hd : d.isRow = true) (hi : (P.info? t).map (·.size) = some cs.length) (hv : w.rangeAt b o cs) : (execOp ρ ⟨dst, .load t x, ty, pos, after, guard⟩).run P w = .ok (.value (.agg cs.toArray)) w := by
  simp [execOp, h, run_loadAt_mid w b o t cs d hv ht hd hi]
theorem ex_fieldAddr {x : Operand} {t : TypeId} {ad : Addr} {fs : Array Field} {i : Nat} {f : Field} {n : Nat} (h : ρ x = .pointer (some ad)) (ht : P.underlying t = some (.struct fs)) (hf : fs[i]? = some f) (hi : (P.info? f.type).map (·.size) = some n) (hn : n ≠ 0) : (execOp ρ ⟨dst, .fieldAddr t x i, ty, pos, after, guard⟩).run P w = .ok (.value (.pointer (some (ad.add f.offset)))) w := by
  cases hq : P.info? f.type with
  | none => simp [hq] at hi
  | some i' =>
    have hs : i'.size = n := by simpa [hq] using hi
    simp [execOp, h, Instr.fieldAt, Instr.sureAddr, fieldPlace, Sem.run_bind, run_underlying ht, hf, sizeOf, typeInfo, hq, hs, hn]
theorem ex_indexAddr {x y : Operand} {t e : TypeId} {ad : Addr} {n c sz : Nat} {k : IntKind} {i : Int} (h : ρ x = .slice (some ad) n c) (h2 : ρ y = .int k i) (ht : P.underlying t = some (.slice e)) (hi : (P.info? e).map (·.size) = some sz) (h0 : 0 ≤ i) (h1 : i < n) : (execOp ρ ⟨dst, .indexAddr t x y, ty, pos, after, guard⟩).run P w = .ok (.value (.pointer (some (ad.add (i.toNat * sz))))) w := by
  cases hq : P.info? e with
  | none => simp [hq] at hi
  | some i' =>
    have hs : i'.size = sz := by simpa [hq] using hi
    simp [execOp, h, h2, Instr.indexAt, asIntOf, Sem.run_bind, run_underlying ht, sizeOf, typeInfo, hq, hs, h0, h1]
theorem ex_indexAddr_array {x y : Operand} {t e : TypeId} {ad : Addr} {n sz : Nat} {k : IntKind} {i : Int} (h : ρ x = .pointer (some ad)) (h2 : ρ y = .int k i) (ht : P.underlying t = some (.array n e)) (hi : (P.info? e).map (·.size) = some sz) (h0 : 0 ≤ i) (h1 : i < n) : (execOp ρ ⟨dst, .indexAddr t x y, ty, pos, after, guard⟩).run P w = .ok (.value (.pointer (some (ad.add (i.toNat * sz))))) w := by
  cases hq : P.info? e with
  | none => simp [hq] at hi
  | some i' =>
    have hs : i'.size = sz := by simpa [hq] using hi
    simp [execOp, h, h2, Instr.indexAt, Instr.sureAddr, asIntOf, Sem.run_bind, run_underlying ht, sizeOf, typeInfo, hq, hs, h0, h1]
theorem ex_len {x : Operand} {t e : TypeId} {ad : Option Addr} {n c : Nat} {ats : Array TypeId} (h : ρ x = .slice ad n c) (h3 : ats[0]? = some t) (ht : P.underlying t = some (.slice e)) : (execOp ρ ⟨dst, .call ⟨.builtin .len, #[x], ats⟩, ty, pos, after, guard⟩).run P w = .ok (.value (.int .i64 n)) w := by
  simp [execOp, resolve, invoke, builtin, Builtin.len_, h, h3, Sem.run_bind, run_underlying ht, goInt]
theorem ex_len_str {x : Operand} {t : TypeId} {s : ByteArray} {ats : Array TypeId} (h : ρ x = .string s) (h3 : ats[0]? = some t) (ht : P.underlying t = some .string) : (execOp ρ ⟨dst, .call ⟨.builtin .len, #[x], ats⟩, ty, pos, after, guard⟩).run P w = .ok (.value (.int .i64 s.size)) w := by
  simp [execOp, resolve, invoke, builtin, Builtin.len_, h, h3, Sem.run_bind, run_underlying ht, goInt]
theorem ex_min {x y : Operand} {k : IntKind} {a b : Int} {ats : Array TypeId} (h : ρ x = .int k a) (h2 : ρ y = .int k b) : (execOp ρ ⟨dst, .call ⟨.builtin .min, #[x, y], ats⟩, ty, pos, after, guard⟩).run P w = .ok (.value (.int k (bif decide (b < a) then b else a))) w := by
  by_cases c : b < a <;> simp [execOp, resolve, invoke, builtin, Builtin.min_, Builtin.min2, h, h2, c]
theorem ex_max {x y : Operand} {k : IntKind} {a b : Int} {ats : Array TypeId} (h : ρ x = .int k a) (h2 : ρ y = .int k b) : (execOp ρ ⟨dst, .call ⟨.builtin .max, #[x, y], ats⟩, ty, pos, after, guard⟩).run P w = .ok (.value (.int k (bif decide (b > a) then b else a))) w := by
  by_cases c : b > a <;> simp [execOp, resolve, invoke, builtin, Builtin.max_, Builtin.max2, h, h2, c]
theorem ex_max4 {x y z u : Operand} {k : IntKind} {a b c d : Int} {ats : Array TypeId} (h : ρ x = .int k a) (h2 : ρ y = .int k b) (h3 : ρ z = .int k c) (h4 : ρ u = .int k d) : (execOp ρ ⟨dst, .call ⟨.builtin .max, #[x, y, z, u], ats⟩, ty, pos, after, guard⟩).run P w = .ok (.value (.int k (max (max (max a b) c) d))) w := by
  have m2 : ∀ p q : Int, Builtin.max2 (.int k p) (.int k q) = pure (.int k (max p q)) := fun p q => by
    by_cases c : q > p
    · have e : max p q = q := by omega
      rw [e]; simp [Builtin.max2, c]
    · have e : max p q = p := by omega
      rw [e]; simp [Builtin.max2, c]
  simp [execOp, resolve, invoke, builtin, Builtin.max_, h, h2, h3, h4, m2]
theorem ex_field_one {x : Operand} {t : TypeId} {fs : Array Field} {i : Nat} {f : Field} {cs : Array Value} {d : TypeDesc} {v : Value} (h : ρ x = .agg cs) (ht : P.underlying t = some (.struct fs)) (hf : fs[i]? = some f) (hd : P.underlying f.type = some d) (hr : d.isRow = false) (hv : cs[f.offset]? = some v) : (execOp ρ ⟨dst, .field t x i, ty, pos, after, guard⟩).run P w = .ok (.value v) w := by
  have hagg : (isAgg f.type).run P w = .ok false w := by
    unfold isAgg
    rw [Sem.run_bind, run_underlying hd w]
    cases d <;> simp_all [TypeDesc.isRow]
  simp [execOp, h, Instr.field, part, asAgg, Sem.run_bind, run_underlying ht, hf, hagg, hv]
theorem ex_field_agg {x : Operand} {t : TypeId} {fs : Array Field} {i : Nat} {f : Field} {cs : Array Value} {d : TypeDesc} {n : Nat} (h : ρ x = .agg cs) (ht : P.underlying t = some (.struct fs)) (hf : fs[i]? = some f) (hd : P.underlying f.type = some d) (hr : d.isRow = true) (hi : (P.info? f.type).map (·.size) = some n) : (execOp ρ ⟨dst, .field t x i, ty, pos, after, guard⟩).run P w = .ok (.value (.agg (cs.extract f.offset (f.offset + n)))) w := by
  have hagg : (isAgg f.type).run P w = .ok true w := by
    unfold isAgg
    rw [Sem.run_bind, run_underlying hd w]
    cases d <;> simp_all [TypeDesc.isRow]
  cases hq : P.info? f.type with
  | none => simp [hq] at hi
  | some i' =>
    have hs : i'.size = n := by simpa [hq] using hi
    simp [execOp, h, Instr.field, part, asAgg, Sem.run_bind, run_underlying ht, hf, hagg, sizeOf, typeInfo, hq, hs]
theorem ex_index_one {x y : Operand} {t e : TypeId} {n sz : Nat} {k : IntKind} {i : Int} {cs : Array Value} {d : TypeDesc} {v : Value} (h : ρ x = .agg cs) (h2 : ρ y = .int k i) (ht : P.underlying t = some (.array n e)) (hi : (P.info? e).map (·.size) = some sz) (h0 : 0 ≤ i) (h1 : i < n) (hd : P.underlying e = some d) (hr : d.isRow = false) (hv : cs[i.toNat * sz]? = some v) : (execOp ρ ⟨dst, .index t x y, ty, pos, after, guard⟩).run P w = .ok (.value v) w := by
  have hagg : (isAgg e).run P w = .ok false w := by
    unfold isAgg
    rw [Sem.run_bind, run_underlying hd w]
    cases d <;> simp_all [TypeDesc.isRow]
  cases hq : P.info? e with
  | none => simp [hq] at hi
  | some i' =>
    have hs : i'.size = sz := by simpa [hq] using hi
    simp [execOp, h, h2, Instr.index, asIntOf, part, Sem.run_bind, run_underlying ht, hagg, sizeOf, typeInfo, hq, hs, h0, h1, hv]
theorem ex_index_agg {x y : Operand} {t e : TypeId} {n sz : Nat} {k : IntKind} {i : Int} {cs : Array Value} {d : TypeDesc} (h : ρ x = .agg cs) (h2 : ρ y = .int k i) (ht : P.underlying t = some (.array n e)) (hi : (P.info? e).map (·.size) = some sz) (h0 : 0 ≤ i) (h1 : i < n) (hd : P.underlying e = some d) (hr : d.isRow = true) : (execOp ρ ⟨dst, .index t x y, ty, pos, after, guard⟩).run P w = .ok (.value (.agg (cs.extract (i.toNat * sz) (i.toNat * sz + sz)))) w := by
  have hagg : (isAgg e).run P w = .ok true w := by
    unfold isAgg
    rw [Sem.run_bind, run_underlying hd w]
    cases d <;> simp_all [TypeDesc.isRow]
  cases hq : P.info? e with
  | none => simp [hq] at hi
  | some i' =>
    have hs : i'.size = sz := by simpa [hq] using hi
    simp [execOp, h, h2, Instr.index, asIntOf, part, Sem.run_bind, run_underlying ht, hagg, sizeOf, typeInfo, hq, hs, h0, h1]
theorem ex_eqstr {B : BinOp} {x y : Operand} {t t2 : TypeId} {a b : ByteArray} (hB : B = .eql ∨ B = .neq) (h : ρ x = .string a) (h2 : ρ y = .string b) : (execOp ρ ⟨dst, .binOp B t x y t2, ty, pos, after, guard⟩).run P w = .ok (.value (.bool (bif B == .eql then a.toList == b.toList else !(a.toList == b.toList)))) w := by
  rcases hB with rfl | rfl
  · simp [execOp, h, h2, eqGuard, binOp, Op.stringOp]
  · simp only [execOp, h, h2, eqGuard, binOp, Op.stringOp]
    cases a.toList == b.toList <;> rfl
theorem ex_cat {x y : Operand} {t t2 : TypeId} {a b : ByteArray} (h : ρ x = .string a) (h2 : ρ y = .string b) (hs : a.size + b.size ≤ 9223372036854775807) : (execOp ρ ⟨dst, .binOp .add t x y t2, ty, pos, after, guard⟩).run P w = .ok (.value (.string (a ++ b))) w := by
  have hm : ¬ (((a.size + b.size : Nat) : Int) > IntKind.i64.max) := by
    have : IntKind.i64.max = 9223372036854775807 := rfl
    omega
  simp only [execOp, h, h2, eqGuard, binOp, Op.stringOp]
  rw [if_neg hm]
  simp
theorem ex_index_str {x y : Operand} {t : TypeId} {k : IntKind} {i : Int} {s : ByteArray} {b : UInt8} (h : ρ x = .string s) (h2 : ρ y = .int k i) (ht : P.underlying t = some .string) (h0 : 0 ≤ i) (hv : s[i.toNat]? = some b) : (execOp ρ ⟨dst, .index t x y, ty, pos, after, guard⟩).run P w = .ok (.value (.int .u8 b.toNat)) w := by
  simp [execOp, h, h2, Instr.index, asIntOf, Sem.run_bind, run_underlying ht, h0, hv]
theorem ex_build {t : TypeId} {parts : Array (Nat × Operand)} {cells : Array Value} (h : P.built t (parts.map fun (i, x) => (i, ρ x)).toList = some cells) : (execOp ρ ⟨dst, .build t parts, ty, pos, after, guard⟩).run P w = .ok (.value (.agg cells)) w := by
  have := run_build (P := P) w t (parts.map fun (i, x) => (i, ρ x)) cells h
  unfold execOp
  simp only [Sem.run_bind, this]
  rfl
theorem ex_makeFunc {f : FuncId} {caps : Array Operand} : (execOp ρ ⟨dst, .makeFunc (.func f) #[] caps, ty, pos, after, guard⟩).run P w = .ok (.value (.func (.func f) #[] (caps.map ρ))) w := by
  simp [execOp, Instr.makeFunc]
theorem ex_eqb {B : BinOp} {x y : Operand} {t t2 : TypeId} {a b : Bool} (hB : B = .eql ∨ B = .neq) (ht : P.underlying t = some .bool) (h : ρ x = .bool a) (h2 : ρ y = .bool b) : (execOp ρ ⟨dst, .binOp B t x y t2, ty, pos, after, guard⟩).run P w = .ok (.value (.bool (bif B == .eql then a == b else !(a == b)))) w := by
  rcases hB with rfl | rfl
  · simp [execOp, h, h2, eqGuard, run_eql_bool w t a b ht]
  · simp [execOp, h, h2, eqGuard, binOp, run_equal_bool w t a b ht]
    cases a <;> cases b <;> rfl
def isInt (ρ : Operand → Value) (o : Option Operand) (z i : Int) : Prop := match o with
  | none => i = z
  | some x => ∃ k, ρ x = .int k i
theorem ex_slice {x : Operand} {lo hi : Option Operand} {t e : TypeId} {A : Option Addr} {n c sz : Nat} {l h : Int} (hx : ρ x = .slice A n c) (hnc : n ≤ c) (hlo : isInt ρ lo 0 l) (hhi : isInt ρ hi n h) (ht : P.underlying t = some (.slice e)) (hi' : (P.info? e).map (·.size) = some sz) (h0 : 0 ≤ l) (h1 : l ≤ h) (h2 : h ≤ n) :
    (execOp ρ ⟨dst, .slice t x lo hi none, ty, pos, after, guard⟩).run P w = .ok (.value (.slice (if c = l.toNat then A else A.map (·.add (l.toNat * sz))) (h.toNat - l.toNat) (c - l.toNat))) w := by
  cases hq : P.info? e with
  | none => simp [hq] at hi'
  | some i' =>
    have hs : i'.size = sz := by simpa [hq] using hi'
    have hc : h ≤ (c : Int) := by omega
    have hh : 0 ≤ h := by omega
    have hb : ∀ {y : Nat} {i : Int} {k : IntKind} {code : BoundsCode}, 0 ≤ i → i ≤ (y : Int) → (Instr.sliceBound (.int k i) y code).run P w = .ok i.toNat w := fun {y i k code} a b => by simp [Instr.sliceBound, asIntOf, a, b]
    have hlh : l ≤ ((h.toNat : Nat) : Int) := by omega
    have hln : l ≤ (n : Int) := by omega
    cases lo with
    | none =>
      obtain rfl : l = 0 := hlo
      cases hi with
      | none =>
        obtain rfl : h = n := hhi
        simp [execOp, hx, Instr.sliceAt, Instr.slice, Instr.sliceBounds, Sem.run_bind, run_underlying ht, sizeOf, typeInfo, hq]
      | some y =>
        obtain ⟨k, hy⟩ := hhi
        simp [execOp, hx, hy, Instr.sliceAt, Instr.slice, Instr.sliceBounds, Sem.run_bind, run_underlying ht, sizeOf, typeInfo, hq, hb hh hc]
    | some y =>
      obtain ⟨k, hy⟩ := hlo
      cases hi with
      | none =>
        obtain rfl : h = n := hhi
        simp [execOp, hx, hy, Instr.sliceAt, Instr.slice, Instr.sliceBounds, Sem.run_bind, run_underlying ht, sizeOf, typeInfo, hq, hs, hb h0 hln]
      | some y2 =>
        obtain ⟨k2, hy2⟩ := hhi
        simp [execOp, hx, hy, hy2, Instr.sliceAt, Instr.slice, Instr.sliceBounds, Sem.run_bind, run_underlying ht, sizeOf, typeInfo, hq, hs, hb hh hc, hb h0 hlh]
theorem ex_slice_str {x : Operand} {lo hi : Option Operand} {t : TypeId} {s : ByteArray} {l h : Int} (hx : ρ x = .string s) (hlo : isInt ρ lo 0 l) (hhi : isInt ρ hi s.size h) (ht : P.underlying t = some .string) (h0 : 0 ≤ l) (h1 : l ≤ h) (h2 : h ≤ s.size) :
    (execOp ρ ⟨dst, .slice t x lo hi none, ty, pos, after, guard⟩).run P w = .ok (.value (.string (s.extract l.toNat h.toNat))) w := by
  have hh : 0 ≤ h := by omega
  have hb : ∀ {y : Nat} {i : Int} {k : IntKind} {code : BoundsCode}, 0 ≤ i → i ≤ (y : Int) → (Instr.sliceBound (.int k i) y code).run P w = .ok i.toNat w := fun {y i k code} a b => by simp [Instr.sliceBound, asIntOf, a, b]
  have hlh : l ≤ ((h.toNat : Nat) : Int) := by omega
  have hln : l ≤ (s.size : Int) := by omega
  cases lo with
  | none =>
    obtain rfl : l = 0 := hlo
    cases hi with
    | none =>
      obtain rfl : h = s.size := hhi
      simp [execOp, hx, Instr.sliceAt, Instr.slice, Instr.sliceBounds, Sem.run_bind, run_underlying ht]
    | some y =>
      obtain ⟨k, hy⟩ := hhi
      simp [execOp, hx, hy, Instr.sliceAt, Instr.slice, Instr.sliceBounds, Sem.run_bind, run_underlying ht, hb hh h2]
  | some y =>
    obtain ⟨k, hy⟩ := hlo
    cases hi with
    | none =>
      obtain rfl : h = s.size := hhi
      simp [execOp, hx, hy, Instr.sliceAt, Instr.slice, Instr.sliceBounds, Sem.run_bind, run_underlying ht, hb h0 hln]
    | some y2 =>
      obtain ⟨k2, hy2⟩ := hhi
      simp [execOp, hx, hy, hy2, Instr.sliceAt, Instr.slice, Instr.sliceBounds, Sem.run_bind, run_underlying ht, hb hh h2, hb h0 hlh]
end run
end Go.Proofs.Ytobfnncpjkeloaa.Ev
