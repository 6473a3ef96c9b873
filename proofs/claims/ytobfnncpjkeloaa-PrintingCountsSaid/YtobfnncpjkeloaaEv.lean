/- A plain reading of Go code: numbers, truth values, strings, memory of the caller's that is only read (views), memory of the function's own (objects). What it answers holds of the machine's run. Not trusted: Lean checks it. -/
import Derived.WalkKit
import Derived.Tactics
import Derived.Test.YtobfnncpjkeloaaEvO
import Derived.Test.YtobfnncpjkeloaaEvM
namespace Go.Proofs.Ytobfnncpjkeloaa.Ev
open Go Go.Proofs.YtobfnncpjkeloaaW.PrintLast
/-- What one cell may hold. fi: the i-th row of a bundle of own rows (its header); fp: a pointer into such a row (element k of e cells). ptr: into an own object; os: the slice that is an own row; rp: a pointer into an own row; junk: what is not to be read; view: a row of n elements of e cells that is only read; vp: a pointer into such a row (its m cells, the place). -/
inductive PS where
  | int (k : IntKind) (n : Int)
  | bool (b : Bool)
  | str (s : ByteArray)
  | nilp
  | nils
  | nilf
  | ptr (o off : Nat)
  | os (o : Nat)
  | rp (o e i off : Nat)
  | junk
  | view (n e : Nat) (row : Nat → Nat → PS)
  | vp (m : Nat) (cell : Nat → PS) (off : Nat)
  | fi (o i : Nat)
  | fp (o i e k off : Nat)
inductive PV where
  | one (s : PS)
  | agg (l : List PS)
  | fn (f : FuncId) (caps : List PS)
  | tup (l : List PV)
/-- An own object: out: a row of n headers of own rows (those of the bundle b, but for the hole); inn: a bundle of n own rows (nil where st is false); dead: one that is not to be used; a variable's cells; a row (elements of type t, e cells each, n of them); a map (keys: numbers or texts; values: numbers or truth values). -/
inductive OB where
  | box (l : List PS)
  | rows (t e n : Nat) (row : Nat → Nat → PS)
  | mp (ki vi : Bool) (val : PS → PS)
  | out (t n b : Nat) (hole : Option Nat)
  | inn (t e n : Nat) (st : Nat → Bool) (len : Nat → Nat) (row : Nat → Nat → Nat → PS)
  | dead
abbrev Heap := List (Nat × OB)
/-- A cell that is only read. -/
inductive RF (w : World) (F : Nat → Prop) : PS → Value → Prop
  | int (k n) : RF w F (.int k n) (.int k n)
  | bool (b) : RF w F (.bool b) (.bool b)
  | str (s) : RF w F (.str s) (.string s)
  | nilp : RF w F .nilp (.pointer none)
  | nils : RF w F .nils (.slice none 0 0)
  | nilf : RF w F .nilf .nilFunc
  | view0 (e row A c) : RF w F (.view 0 e row) (.slice A 0 c)
  | view (n e row b off c) (val : Nat → Nat → Value) : 0 < n → n ≤ c → F b → (∀ i j, i < n → j < e → w.cell? ⟨b, off + (i * e + j), none⟩ = some (val i j)) → (∀ i j, i < n → j < e → RF w F (row i j) (val i j)) → RF w F (.view n e row) (.slice (some ⟨b, off, none⟩) n c)
  | vp (m cell b off0 off) (val : Nat → Value) : F b → (∀ j, j < m → w.cell? ⟨b, off0 + j, none⟩ = some (val j)) → (∀ j, j < m → RF w F (cell j) (val j)) → RF w F (.vp m cell off) (.pointer (some ⟨b, off0 + off, none⟩))
theorem RF.mono {w w' : World} {F F' : Nat → Prop} (h : ∀ b, F b → F' b ∧ w'.heap[b]? = w.heap[b]?) {s : PS} {v : Value} (r : RF w F s v) : RF w' F' s v := by
  have hc : ∀ b o, F b → w'.cell? ⟨b, o, none⟩ = w.cell? ⟨b, o, none⟩ := fun b o hb => by unfold World.cell?; rw [(h b hb).2]
  induction r with
  | int k n => exact .int k n
  | bool b => exact .bool b
  | str s => exact .str s
  | nilp => exact .nilp
  | nils => exact .nils
  | nilf => exact .nilf
  | view0 e row A c => exact .view0 e row A c
  | view n e row b off c val h0 hnc hb hcell _ ih => exact .view n e row b off c val h0 hnc (h b hb).1 (fun i j hi hj => (hc _ _ hb).trans (hcell i j hi hj)) ih
  | vp m cell b off0 off val hb hcell _ ih => exact .vp m cell b off0 off val (h b hb).1 (fun j hj => (hc _ _ hb).trans (hcell j hj)) ih
theorem RF.one {w : World} {F : Nat → Prop} {s : PS} {v : Value} (r : RF w F s v) : v.oneCell' = true := by cases r <;> rfl
/-- An object's address, or a row's header. -/
abbrev Blocks := Nat → Option Value
def blk : Value → Option Nat
  | .pointer (some a) => some a.block
  | .slice (some a) _ _ => some a.block
  | .map (some r) => some r
  | _ => none
/-- The blocks of an object: of a bundle's, those of its rows. -/
def Blk : Value → Nat → Prop
  | .tuple l, b => ∃ v ∈ l.toList, blk v = some b
  | v, b => blk v = some b
/-- What an own row or an own map is handed on as. -/
def hdrV : Value → Bool
  | .slice .. => true
  | .map _ => true
  | _ => false
theorem hdr_one {v : Value} (h : hdrV v = true) : v.oneCell' = true := by cases v <;> first | rfl | cases h
/-- A key as a cell, and as the machine's value. -/
inductive KeyS : Bool → PS → Value → Prop
  | i (n : Int) : KeyS true (.int .i64 n) (.int .i64 n)
  | s (b : ByteArray) : KeyS false (.str b) (.string b)
theorem KeyS.key {ki : Bool} {s : PS} {k : Value} (h : KeyS ki s k) : KeyM ki k := by cases h <;> constructor
/-- A cell. -/
def RS (w : World) (F : Nat → Prop) (β : Blocks) : PS → Value → Prop
  | .ptr o off, v => ∃ b, β o = some (.pointer (some ⟨b, 0, none⟩)) ∧ v = .pointer (some ⟨b, off, none⟩)
  | .os o, v => β o = some v ∧ hdrV v = true
  | .rp o e i off, v => ∃ b n c, β o = some (.slice (some ⟨b, 0, none⟩) n c) ∧ v = .pointer (some ⟨b, i * e + off, none⟩)
  | .junk, v => v.oneCell' = true
  | .fi o i, v => ∃ l : List Value, β o = some (.tuple l.toArray) ∧ l[i]? = some v ∧ hdrV v = true
  | .fp o i e k off, v => ∃ (l : List Value) (b n c : Nat), β o = some (.tuple l.toArray) ∧ l[i]? = some (.slice (some ⟨b, 0, none⟩) n c) ∧ v = .pointer (some ⟨b, k * e + off, none⟩)
  | s, v => RF w F s v
def noPtr : PS → Bool
  | .ptr .. => false
  | .os .. => false
  | .rp .. => false
  | .junk => false
  | .fi .. => false
  | .fp .. => false
  | _ => true
theorem RS_of {w : World} {F : Nat → Prop} {β : Blocks} {s : PS} {v : Value} (h : noPtr s = true) : RS w F β s v ↔ RF w F s v := by cases s <;> simp_all [RS, noPtr]
theorem RS.one {w : World} {F : Nat → Prop} {β : Blocks} {s : PS} {v : Value} (r : RS w F β s v) : v.oneCell' = true := by
  cases s <;> first | exact RF.one r | exact r | (obtain ⟨b, _, rfl⟩ := r; rfl) | exact hdr_one r.2 | (obtain ⟨b, n, c, _, rfl⟩ := r; rfl) | (obtain ⟨l, _, _, h⟩ := r; exact hdr_one h) | (obtain ⟨l, b, n, c, _, _, rfl⟩ := r; rfl)
/-- Objects that a cell names are of 'ok'. -/
def okS (ok : Nat → Bool) : PS → Bool
  | .ptr o _ => ok o
  | .os o => ok o
  | .rp o _ _ _ => ok o
  | .fi o _ => ok o
  | .fp o _ _ _ _ => ok o
  | _ => true
def okV1 (ok : Nat → Bool) : PV → Bool
  | .one s => okS ok s
  | .agg l => l.all (okS ok)
  | .fn _ l => l.all (okS ok)
  | .tup _ => false
def okV (ok : Nat → Bool) : PV → Bool
  | .one s => okS ok s
  | .agg l => l.all (okS ok)
  | .fn _ l => l.all (okS ok)
  | .tup l => l.all (okV1 ok)
/-- From one world to a later one: what is only read stays, and objects of 'ok' stay where they are. -/
structure Step (ok : Nat → Bool) (w : World) (F : Nat → Prop) (β : Blocks) (w' : World) (F' : Nat → Prop) (β' : Blocks) : Prop where
  os : w'.os = w.os
  tape : w'.tape = w.tape
  output : w'.output = w.output
  size : w.heap.size ≤ w'.heap.size
  read : ∀ b, F b → F' b ∧ w'.heap[b]? = w.heap[b]?
  own : ∀ o b, ok o = true → β o = some b → β' o = some b
theorem RS.step {ok : Nat → Bool} {w w' : World} {F F' : Nat → Prop} {β β' : Blocks} (h : Step ok w F β w' F' β') {s : PS} {v : Value} (hs : okS ok s = true) (r : RS w F β s v) : RS w' F' β' s v := by
  cases s <;> first | exact RF.mono h.read r | exact r | (obtain ⟨b, h1, rfl⟩ := r; exact ⟨b, h.own _ _ hs h1, rfl⟩) | exact ⟨h.own _ _ hs r.1, r.2⟩ | (obtain ⟨b, n, c, h1, rfl⟩ := r; exact ⟨b, n, c, h.own _ _ hs h1, rfl⟩) | (obtain ⟨l, h1, h2, h3⟩ := r; exact ⟨l, h.own _ _ hs h1, h2, h3⟩) | (obtain ⟨l, b, n, c, h1, h2, rfl⟩ := r; exact ⟨l, b, n, c, h.own _ _ hs h1, h2, rfl⟩)
inductive All2 {α β : Type} (R : α → β → Prop) : List α → List β → Prop
  | nil : All2 R [] []
  | cons {a b l m} : R a b → All2 R l m → All2 R (a :: l) (b :: m)
namespace All2
variable {α β : Type} {R R' : α → β → Prop}
theorem length {l : List α} {m : List β} (h : All2 R l m) : l.length = m.length := by induction h <;> simp_all
theorem imp {l : List α} {m : List β} (h : All2 R l m) (hi : ∀ a b, a ∈ l → R a b → R' a b) : All2 R' l m := by
  induction h with
  | nil => exact .nil
  | cons h1 _ ih => exact .cons (hi _ _ (by simp) h1) (ih (fun a b ha => hi a b (by simp [ha])))
theorem app {l l' : List α} {m m' : List β} (h : All2 R l m) (h' : All2 R l' m') : All2 R (l ++ l') (m ++ m') := by
  induction h with
  | nil => exact h'
  | cons h1 _ ih => exact .cons h1 ih
theorem drop {l : List α} {m : List β} (h : All2 R l m) (n : Nat) : All2 R (l.drop n) (m.drop n) := by
  induction h generalizing n with
  | nil => simpa using All2.nil
  | cons h1 h2 ih => cases n with
    | zero => exact .cons h1 h2
    | succ n => simpa using ih n
theorem take {l : List α} {m : List β} (h : All2 R l m) (n : Nat) : All2 R (l.take n) (m.take n) := by
  induction h generalizing n with
  | nil => simpa using All2.nil
  | cons h1 h2 ih => cases n with
    | zero => exact .nil
    | succ n => simpa using All2.cons h1 (ih n)
theorem get {l : List α} {m : List β} (h : All2 R l m) {i : Nat} {a : α} (ha : l[i]? = some a) : ∃ b, m[i]? = some b ∧ R a b := by
  induction h generalizing i with
  | nil => simp at ha
  | cons h1 _ ih => cases i with
    | zero => simp at ha; subst ha; exact ⟨_, rfl, h1⟩
    | succ i => exact ih (by simpa using ha)
theorem of_get {l : List α} {m : List β} (hl : l.length = m.length) (h : ∀ (i : Nat) (a : α) (b : β), l[i]? = some a → m[i]? = some b → R a b) : All2 R l m := by
  induction l generalizing m with
  | nil => cases m with
    | nil => exact .nil
    | cons _ _ => simp at hl
  | cons a l ih => cases m with
    | nil => simp at hl
    | cons b m => exact .cons (h 0 a b rfl rfl) (ih (by simpa using hl) (fun i a b h1 h2 => h (i + 1) a b (by simpa using h1) (by simpa using h2)))
end All2
def RV1 (w : World) (F : Nat → Prop) (β : Blocks) : PV → Value → Prop
  | .one s, v => RS w F β s v
  | .agg l, v => ∃ m, v = .agg m.toArray ∧ All2 (RS w F β) l m
  | .fn f l, v => ∃ m, v = .func (.func f) #[] m.toArray ∧ All2 (RS w F β) l m
  | .tup _, _ => False
def RV (w : World) (F : Nat → Prop) (β : Blocks) : PV → Value → Prop
  | .one s, v => RS w F β s v
  | .agg l, v => ∃ m, v = .agg m.toArray ∧ All2 (RS w F β) l m
  | .fn f l, v => ∃ m, v = .func (.func f) #[] m.toArray ∧ All2 (RS w F β) l m
  | .tup l, v => ∃ m, v = .tuple m.toArray ∧ All2 (RV1 w F β) l m
theorem RV1.up {w : World} {F : Nat → Prop} {β : Blocks} {s : PV} {v : Value} (h : RV1 w F β s v) : RV w F β s v := by
  cases s <;> first | exact h | exact h.elim
theorem okV1.up {ok : Nat → Bool} {s : PV} (h : okV1 ok s = true) : okV ok s = true := by
  cases s <;> first | exact h | cases h
theorem RV1.step {ok : Nat → Bool} {w w' : World} {F F' : Nat → Prop} {β β' : Blocks} (h : Step ok w F β w' F' β') {s : PV} {v : Value} (hs : okV1 ok s = true) (r : RV1 w F β s v) : RV1 w' F' β' s v := by
  cases s with
  | one s => exact RS.step h hs r
  | agg l => obtain ⟨m, rfl, ha⟩ := r; exact ⟨m, rfl, ha.imp (fun a b ha r => RS.step h (List.all_eq_true.1 hs a ha) r)⟩
  | fn f l => obtain ⟨m, rfl, ha⟩ := r; exact ⟨m, rfl, ha.imp (fun a b ha r => RS.step h (List.all_eq_true.1 hs a ha) r)⟩
  | tup l => exact r.elim
theorem RV.step {ok : Nat → Bool} {w w' : World} {F F' : Nat → Prop} {β β' : Blocks} (h : Step ok w F β w' F' β') {s : PV} {v : Value} (hs : okV ok s = true) (r : RV w F β s v) : RV w' F' β' s v := by
  cases s with
  | one s => exact RS.step h hs r
  | agg l => obtain ⟨m, rfl, ha⟩ := r; exact ⟨m, rfl, ha.imp (fun a b ha r => RS.step h (List.all_eq_true.1 hs a ha) r)⟩
  | fn f l => obtain ⟨m, rfl, ha⟩ := r; exact ⟨m, rfl, ha.imp (fun a b ha r => RS.step h (List.all_eq_true.1 hs a ha) r)⟩
  | tup l => obtain ⟨m, rfl, ha⟩ := r; exact ⟨m, rfl, ha.imp (fun a b ha r => RV1.step h (List.all_eq_true.1 hs a ha) r)⟩
theorem Step.refl (ok : Nat → Bool) (w : World) (F : Nat → Prop) (β : Blocks) : Step ok w F β w F β := ⟨rfl, rfl, rfl, Nat.le_refl _, fun _ h => ⟨h, rfl⟩, fun _ _ _ h => h⟩
theorem Step.trans {ok : Nat → Bool} {w w' w'' : World} {F F' F'' : Nat → Prop} {β β' β'' : Blocks} (h : Step ok w F β w' F' β') (h' : Step ok w' F' β' w'' F'' β'') : Step ok w F β w'' F'' β'' :=
  ⟨h'.os.trans h.os, h'.tape.trans h.tape, h'.output.trans h.output, Nat.le_trans h.size h'.size, fun b hb => ⟨(h'.read b (h.read b hb).1).1, (h'.read b (h.read b hb).1).2.trans (h.read b hb).2⟩, fun o b ho hb => h'.own o b ho (h.own o b ho hb)⟩
theorem Step.weaken {ok ok' : Nat → Bool} {w w' : World} {F F' : Nat → Prop} {β β' : Blocks} (h : Step ok w F β w' F' β') (hi : ∀ o, ok' o = true → ok o = true) : Step ok' w F β w' F' β' := ⟨h.os, h.tape, h.output, h.size, h.read, fun o b ho => h.own o b (hi o ho)⟩
/-- An object as it lies in the world. -/
def okOB (nb : Nat) (w : World) (F : Nat → Prop) (β : Blocks) (o : Nat) : OB → Prop
  | .box l => l.all (okS (fun x => decide (x < nb))) = true ∧ ∃ b c t, β o = some (.pointer (some ⟨b, 0, none⟩)) ∧ w.heap[b]? = some (.cells c t (0, 0)) ∧ All2 (RS w F β) l c.toList
  | .rows t e n row => ∃ v xs, β o = some v ∧ w.ownsRow 0 t e v n xs ∧ ∀ i j, i < n → j < e → ∃ u, xs[i * e + j]? = some u ∧ RF w F (row i j) u
  | .mp ki vi val => ∃ r es c, β o = some (.map (some r)) ∧ w.heap[r]? = some (.map es c) ∧ (∀ e ∈ es.toList, KeyM ki e.key) ∧ ∀ s k, KeyS ki s k → ∃ v, LookM (zeroM vi) es.toList k v ∧ RF w F (val s) v
  | .out t n o' hole => o' < nb ∧ ∃ (v : Value) (xs l : List Value), β o = some v ∧ w.ownsRow 0 t 1 v n xs ∧ β o' = some (.tuple l.toArray) ∧ l.length = n ∧ (∀ u, u ∈ l → hdrV u = true) ∧ ∀ i, i < n → hole ≠ some i → xs[i]? = l[i]?
  | .inn t e n st len row => ∃ l : List Value, β o = some (.tuple l.toArray) ∧ l.length = n ∧ (∀ i u, l[i]? = some u → (st i = false → u = .slice none 0 0) ∧ (st i = true → ∃ b, blk u = some b) ∧ ∃ xs, w.ownsRow 0 t e u (len i) xs ∧ ∀ k j, k < len i → j < e → ∃ c, xs[k * e + j]? = some c ∧ RF w F (row i k j) c) ∧ ∀ (i i' : Nat) (u u' : Value) (b : Nat), l[i]? = some u → l[i']? = some u' → blk u = some b → blk u' = some b → i = i'
  | .dead => ∃ u, β o = some u
/-- The own objects (their names below nb) as they lie in the world. -/
structure Inv (nb : Nat) (w : World) (F : Nat → Prop) (β : Blocks) (H : Heap) : Prop where
  uniq : ∀ o l l', (o, l) ∈ H → (o, l') ∈ H → l = l'
  obj : ∀ o l, (o, l) ∈ H → o < nb ∧ okOB nb w F β o l
  apart : ∀ o u b, β o = some u → Blk u b → ¬ F b
  inj : ∀ o o' u u' b, β o = some u → β o' = some u' → Blk u b → Blk u' b → o = o'
  lt : ∀ b, F b → b < w.heap.size
  ltβ : ∀ o u b, β o = some u → Blk u b → b < w.heap.size
/-! #### slots -/
abbrev En := List (Nat × Option (Nat × Bool) × PV)
/-- A slot's value: as told, and it names objects below nb alone. -/
def RN (nb : Nat) (w : World) (F : Nat → Prop) (β : Blocks) (v : PV) (u : Value) : Prop := RV w F β v u ∧ okV (fun y => decide (y < nb)) v = true
def okAt (nb : Nat) (w : World) (F : Nat → Prop) (β : Blocks) (T : Array Value) (x : Nat × Option (Nat × Bool) × PV) : Prop := x.1 < T.size ∧ match x.2.1 with
  | none => RN nb w F β x.2.2 (T.getD x.1 undef)
  | some (s, b) => (T.getD s undef = .bool b → RN nb w F β x.2.2 (T.getD x.1 undef)) ∧ (T.getD s undef ≠ .bool b → T.getD x.1 undef = undef)
def okE (nb : Nat) (w : World) (F : Nat → Prop) (β : Blocks) (T : Array Value) (E : En) : Prop := ∀ x ∈ E, okAt nb w F β T x
def findE (E : En) (t : Nat) : Option (Option (Nat × Bool) × PV) := (List.find? (fun x => x.1 == t) E).map (·.2)
def upE (E : En) : Nat → Nat → List (Nat × Bool)
  | 0, _ => []
  | k + 1, s => match findE E s with
    | some (some g, _) => g :: upE E k g.1
    | _ => []
def gsOf (E : En) (s : Nat) (b : Bool) : List (Nat × Bool) := (s, b) :: upE E 8 s
def holdsG (T : Array Value) (G : List (Nat × Bool)) : Prop := ∀ g ∈ G, T.getD g.1 undef = .bool g.2
theorem find_mem {E : En} {t : Nat} {y : Option (Nat × Bool) × PV} (h : findE E t = some y) : (t, y) ∈ E := by
  unfold findE at h
  obtain ⟨x, hx, rfl⟩ := Option.map_eq_some_iff.1 h
  have := List.find?_some hx
  have e : x.1 = t := by simpa using this
  subst e
  exact List.mem_of_find?_eq_some hx
theorem undef_bool (b : Bool) : undef ≠ Value.bool b := by unfold undef; exact fun h => by cases h
section slots
variable {nb : Nat} {w : World} {F : Nat → Prop} {β : Blocks} {E : En} {T : Array Value}
theorem up_ok (hE : okE nb w F β T E) : ∀ (k s : Nat) (b : Bool), T.getD s undef = .bool b → holdsG T (upE E k s) := by
  intro k
  induction k with
  | zero => intro s b _ g hg; cases hg
  | succ k ih =>
    intro s b hs g hg
    unfold upE at hg
    split at hg
    · rename_i g' v hf
      have h1 := (hE _ (find_mem hf)).2
      simp only at h1
      have h2 : T.getD g'.1 undef = .bool g'.2 := by
        by_cases c : T.getD g'.1 undef = .bool g'.2
        · exact c
        · have := h1.2 c; rw [hs] at this; exact absurd this.symm (undef_bool b)
      rcases List.mem_cons.1 hg with rfl | h
      · exact h2
      · exact ih g'.1 g'.2 h2 g h
    · cases hg
theorem gs_ok (hE : okE nb w F β T E) {s : Nat} {b : Bool} (hs : T.getD s undef = .bool b) : holdsG T (gsOf E s b) := fun g hg => by
  rcases List.mem_cons.1 hg with rfl | h
  · exact hs
  · exact up_ok hE 8 s b hs g h
def lookE (E : En) (G : List (Nat × Bool)) (t : Nat) : Option PV := match findE E t with
  | some (none, v) => some v
  | some (some g, v) => if G.contains g then some v else none
  | none => none
theorem look_ok {G : List (Nat × Bool)} {t : Nat} {v : PV} (hE : okE nb w F β T E) (hG : holdsG T G) (h : lookE E G t = some v) : RN nb w F β v (T.getD t undef) := by
  unfold lookE at h
  split at h
  · rename_i v' hf
    obtain rfl := Option.some.inj h
    exact (hE _ (find_mem hf)).2
  · rename_i g v' hf
    split at h
    · rename_i hc
      obtain rfl := Option.some.inj h
      have h1 := (hE _ (find_mem hf)).2
      exact h1.1 (hG g (by simpa using hc))
    · cases h
  · cases h
theorem okS_noPtr {s : PS} (h : noPtr s = true) (ok : Nat → Bool) : okS ok s = true := by cases s <;> simp_all [okS, noPtr]
def constV : Value → Option PS
  | .int k n => some (.int k n)
  | .bool b => some (.bool b)
  | .string s => some (.str s)
  | .pointer none => some .nilp
  | .slice none 0 0 => some .nils
  | .nilFunc => some .nilf
  | _ => none
theorem const_ok {v : Value} {s : PS} (h : constV v = some s) : RS w F β s v ∧ noPtr s = true := by
  unfold constV at h
  split at h <;> first | (obtain rfl := Option.some.inj h; exact ⟨by constructor, rfl⟩) | cases h
/-- What is known of package variables: their place. -/
abbrev Globs := Nat → Option PS
def okG (w : World) (F : Nat → Prop) (L : Globs) : Prop := ∀ g s, L g = some s → noPtr s = true ∧ RF w F s (.pointer (some ⟨g, 0, none⟩))
variable {L : Globs}
def opnd (L : Globs) (E : En) (G : List (Nat × Bool)) : Operand → Option PV
  | .tmp t => lookE E G t
  | .func f => some (.fn f [])
  | .const v => (constV v).map .one
  | .global g => (L g).map .one
theorem opnd_ok {a : Act} {G : List (Nat × Bool)} {x : Operand} {v : PV} (hL : okG w F L) (hE : okE nb w F β a.tmps E) (hG : holdsG a.tmps G) (h : opnd L E G x = some v) : RN nb w F β v (a.eval x) := by
  cases x with
  | tmp t => exact look_ok hE hG h
  | func f => obtain rfl := Option.some.inj h; exact ⟨⟨[], rfl, .nil⟩, rfl⟩
  | const v =>
    obtain ⟨s, h1, rfl⟩ := Option.map_eq_some_iff.1 h
    exact ⟨(const_ok h1).1, okS_noPtr (const_ok (w := w) (F := F) (β := β) h1).2 _⟩
  | global g =>
    obtain ⟨s, h1, rfl⟩ := Option.map_eq_some_iff.1 h
    obtain ⟨h2, h3⟩ := hL g s h1
    exact ⟨(RS_of h2).2 h3, okS_noPtr h2 _⟩
theorem mapM_opnd {a : Act} {G : List (Nat × Bool)} (hL : okG w F L) (hE : okE nb w F β a.tmps E) (hG : holdsG a.tmps G) : ∀ {xs : List Operand} {vs : List PV}, xs.mapM (opnd L E G) = some vs → All2 (RN nb w F β) vs (xs.map a.eval) := by
  intro xs
  induction xs with
  | nil => intro vs h; simp at h; subst h; exact .nil
  | cons x xs ih =>
    intro vs h
    simp only [List.mapM_cons, Option.bind_eq_bind, Option.bind_eq_some_iff, Option.pure_def, Option.some.injEq] at h
    obtain ⟨v, hv, vs', hvs, rfl⟩ := h
    exact .cons (opnd_ok hL hE hG hv) (ih hvs)
def isB (sb : Bool) : Bool → Bool
  | true => sb
  | false => !sb
theorem isB_iff {sb b : Bool} : isB sb b = true ↔ sb = b := by cases sb <;> cases b <;> decide
def andR (x y : Bool) : Bool := bif y then x else false
theorem andR_iff {x y : Bool} : andR x y = true ↔ x = true ∧ y = true := by cases x <;> cases y <;> decide
def condOf (E : En) : List (Nat × Bool) → Bool
  | [] => true
  | (s, b) :: r => andR (match findE E s with | some (_, .one (.bool sb)) => isB sb b | _ => true) (condOf E r)
theorem RV_bool {b : Bool} {v : Value} (h : RV w F β (.one (.bool b)) v) : v = .bool b := by cases h; rfl
theorem RV_int {k : IntKind} {n : Int} {v : Value} (h : RV w F β (.one (.int k n)) v) : v = .int k n := by cases h; rfl
theorem RV_str {s : ByteArray} {v : Value} (h : RV w F β (.one (.str s)) v) : v = .string s := by cases h; rfl
theorem cond_ok (hE : okE nb w F β T E) : ∀ (G : List (Nat × Bool)), holdsG T G → condOf E G = true := by
  intro G
  induction G with
  | nil => intro _; rfl
  | cons g r ih =>
    intro hG
    unfold condOf
    rw [andR_iff]
    refine ⟨?_, ih (fun x hx => hG x (List.mem_cons_of_mem _ hx))⟩
    have h0 := hG g (List.mem_cons_self ..)
    split
    · rename_i y sb hf
      have h1 := (hE _ (find_mem hf)).2
      simp only at h1
      have h2 : T.getD g.1 undef = .bool sb := by
        cases y with
        | none => exact RV_bool h1.1
        | some q =>
          by_cases c : T.getD q.1 undef = .bool q.2
          · exact RV_bool (h1.1 c).1
          · have := h1.2 c; rw [h0] at this; exact absurd this.symm (undef_bool _)
      rw [h0] at h2
      injection h2 with h2
      exact isB_iff.2 h2.symm
    · rfl
def dropE (d : Nat) (E : En) : En := E.filter fun x => x.1 != d && (match x.2.1 with | some (s, _) => s != d | none => true)
theorem drop_ok {d : Nat} {v : Value} (hE : okE nb w F β T E) : okE nb w F β (T.setIfInBounds d v) (dropE d E) := fun x hx => by
  obtain ⟨h1, h2⟩ := List.mem_filter.1 hx
  have h3 := hE x h1
  have get : ∀ t, t ≠ d → (T.setIfInBounds d v).getD t undef = T.getD t undef := fun t ht => by
    simp only [Array.getD_eq_getD_getElem?, Array.getElem?_setIfInBounds]
    rw [if_neg (fun h => ht h.symm)]
  obtain ⟨d', g, pv⟩ := x
  simp only [Bool.and_eq_true, bne_iff_ne, ne_eq] at h2
  refine ⟨by simpa using h3.1, ?_⟩
  cases g with
  | none => simp only; rw [get d' h2.1]; exact h3.2
  | some q =>
    obtain ⟨s, b⟩ := q
    have hs : s ≠ d := by simpa using h2.2
    simp only; rw [get d' h2.1, get s hs]; exact h3.2
theorem okS_imp {ok ok' : Nat → Bool} (h : ∀ o, ok o = true → ok' o = true) {s : PS} (hs : okS ok s = true) : okS ok' s = true := by
  cases s <;> first | exact hs | exact h _ hs
theorem okV1_imp {ok ok' : Nat → Bool} (h : ∀ o, ok o = true → ok' o = true) {v : PV} (hv : okV1 ok v = true) : okV1 ok' v = true := by
  cases v <;> simp only [okV1, List.all_eq_true] at hv ⊢ <;> first | exact okS_imp h hv | exact fun s h0 => okS_imp h (hv s h0) | cases hv
theorem okV_imp {ok ok' : Nat → Bool} (h : ∀ o, ok o = true → ok' o = true) {v : PV} (hv : okV ok v = true) : okV ok' v = true := by
  cases v <;> simp only [okV, List.all_eq_true] at hv ⊢ <;> first | exact okS_imp h hv | exact fun s h0 => okS_imp h (hv s h0) | exact fun s h0 => okV1_imp h (hv s h0)
/-- The slots, in a later world, without those that name objects that are not of 'ok'. -/
def keepE (ok : Nat → Bool) (E : En) : En := E.filter fun x => okV ok x.2.2
theorem step_ok {ok : Nat → Bool} {w' : World} {F' : Nat → Prop} {β' : Blocks} (hE : okE nb w F β T E) (h : Step ok w F β w' F' β') : okE nb w' F' β' T (keepE ok E) := fun x hx => by
  obtain ⟨h1, h2⟩ := List.mem_filter.1 hx
  obtain ⟨h3, h5⟩ := hE x h1
  refine ⟨h3, ?_⟩
  obtain ⟨d, g, v⟩ := x
  cases g with
  | none => exact ⟨RV.step h h2 h5.1, h5.2⟩
  | some q => exact ⟨fun c => ⟨RV.step h h2 (h5.1 c).1, (h5.1 c).2⟩, h5.2⟩
theorem RN.step {w' : World} {F' : Nat → Prop} {β' : Blocks} {v : PV} {u : Value} (h5 : RN nb w F β v u) (h : Step (fun o => decide (o < nb)) w F β w' F' β') : RN nb w' F' β' v u := ⟨RV.step h h5.2 h5.1, h5.2⟩
theorem step_all {w' : World} {F' : Nat → Prop} {β' : Blocks} (hE : okE nb w F β T E) (h : Step (fun o => decide (o < nb)) w F β w' F' β') : okE nb w' F' β' T E := fun x hx => by
  obtain ⟨h3, h5⟩ := hE x hx
  refine ⟨h3, ?_⟩
  obtain ⟨d, g, v⟩ := x
  cases g with
  | none => exact h5.step h
  | some q => exact ⟨fun c => (h5.1 c).step h, h5.2⟩
end slots
end Go.Proofs.Ytobfnncpjkeloaa.Ev
