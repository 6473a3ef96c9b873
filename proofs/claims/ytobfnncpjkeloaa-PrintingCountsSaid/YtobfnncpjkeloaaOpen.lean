/- Helpers for rows of laws: an argument that reads as data at its type is of the kind that the printed contracts speak of, and its numbers fit their types; behind the call it reads as before. No condition beyond what each lemma states. -/
import Derived.Test.YtobfnncpjkeloaaWMore
import Derived.Test.YtobfnncpjkeloaaWSized
import Derived.Deep.Slices
import Derived.ProofKit
import Derived.OpenShut
import Derived.ChangeOld
namespace Go.Proofs.Ytobfnncpjkeloaa.Open
open Go.ChangeShapes Go.WideShapes Go.RowKit Go.Deep Go.Proofs.YtobfnncpjkeloaaW.PrintWords

/-- What reads as data at type t is of the kind d, and is as wf says. -/
def Opens (P : Program) (t : TypeId) {α : Type} (d : Kd α) (wf : α → Prop) : Prop :=
  ∀ (H : Type) (enc : TypeId × Value → H) (w : World) (base : Nat) (spare : Nat → Bool) (held : Bool) (fuel : Nat) (cs : List Value) (x : DataW H × List MemPlace),
    DataW.trod enc P w base spare held fuel t cs = some x → ∃ a : α, d.K w a cs ∧ wf a
/-- The same for the last fields of a struct: 'off' is where they begin, 'n' how many cells the struct has. -/
def OpensFs (P : Program) (fs : List Field) (off n : Nat) {α : Type} (d : Kd α) (wf : α → Prop) : Prop :=
  ∀ (H : Type) (enc : TypeId × Value → H) (w : World) (base : Nat) (spare : Nat → Bool) (held : Bool) (fuel : Nat) (cs : List Value), cs.length = n →
    (∀ f ∈ fs, ∃ x, DataW.trod enc P w base spare held fuel f.type ((cs.drop f.offset).take (P.cellsOf f.type)) = some x) → ∃ a : α, d.K w a (cs.drop off) ∧ wf a
theorem Opens.mono {P : Program} {t : TypeId} {α : Type} {d : Kd α} {wf wf' : α → Prop} (h : Opens P t d wf) (k : ∀ a, wf a → wf' a) : Opens P t d wf' := fun H enc w base spare held fuel cs x hx => by
  obtain ⟨a, h1, h2⟩ := h H enc w base spare held fuel cs x hx
  exact ⟨a, h1, k a h2⟩
theorem opens_int {P : Program} {t : TypeId} {k : IntKind} (ht : P.underlying t = some (.int k)) : Opens P t (Kd.int k) (fun n => (Lit.int k n).wf = true) := fun H enc w base spare held fuel cs x hx => by
  obtain ⟨n, rfl, _, h⟩ := DataW.trod_int ht hx
  exact ⟨n, rfl, h⟩
theorem opens_bool {P : Program} {t : TypeId} (ht : P.underlying t = some .bool) : Opens P t Kd.bool (fun _ => True) := fun H enc w base spare held fuel cs x hx => by
  obtain ⟨n, rfl, _⟩ := DataW.trod_bool ht hx
  exact ⟨n, rfl, trivial⟩
theorem opens_string {P : Program} {t : TypeId} (ht : P.underlying t = some .string) : Opens P t Kd.string (fun s => s.size ≤ maxLen) := fun H enc w base spare held fuel cs x hx => by
  obtain ⟨n, rfl, _, h⟩ := DataW.trod_string ht hx
  exact ⟨n, rfl, h⟩
theorem opens_slice {P : Program} {t e : TypeId} {α : Type} [Inhabited α] {d : Kd α} {wf : α → Prop} (ht : P.underlying t = some (.slice e)) (hsz : d.sz = P.cellsOf e) (he : Opens P e d wf) : Opens P t (Kd.slice e d) (fun l => (∀ x ∈ l, wf x) ∧ l.length ≤ maxLen) := fun H enc w base spare held fuel cs x hx => by
  rcases open_slice ht hx with ⟨rfl, _⟩ | ⟨a, len, cap, m, n, D, Pl, rfl, _, hl, hm, hmm, _, hel⟩
  · exact ⟨[], ⟨none, 0, rfl, Nat.le_refl _, rfl, by simp, fun h => absurd h (by simp)⟩, by simp, by simp⟩
  · have hlm : len ≤ m := by rw [hmm]; split <;> omega
    have key : ∀ i, i < len → ∃ y : α, wf y ∧ ∃ c, w.cells? base (a.add (i * P.cellsOf e)) (P.cellsOf e) = some c ∧ d.K w y c := fun i hi => by
      obtain ⟨c, h1, h2⟩ := hel i (by omega)
      obtain ⟨y, h3, h4⟩ := he H enc w base spare held n c _ h2
      exact ⟨y, h4, c, h1, h3⟩
    obtain ⟨f, hf⟩ := choose_lt (n := len) (p := fun i y => wf y ∧ ∃ c, w.cells? base (a.add (i * P.cellsOf e)) (P.cellsOf e) = some c ∧ d.K w y c) key
    have hlen : ((List.range len).map f).length = len := by simp
    refine ⟨(List.range len).map f, ⟨some a, cap, by rw [hlen], by rw [hlen]; exact hl, ?_⟩, ?_, by rw [hlen]; omega⟩
    · refine ⟨rfl, by rw [hlen]; unfold maxLen at hm; omega, fun _ => ⟨a, rfl, fun j p hj => ?_⟩⟩
      obtain ⟨hlt, hp⟩ := List.getElem?_eq_some_iff.1 hj
      rw [hlen] at hlt
      have hp' : f j = p := by simpa using hp
      obtain ⟨_, c, h1, h2⟩ := hf j hlt
      rw [hp'] at h2
      refine ⟨c, d.K_len h2, h2, fun i u hu => ?_⟩
      obtain ⟨hbb, hcl, hce⟩ := World.cells?_some h1
      rw [hsz, ← Deep.add_add]
      have hi : i < P.cellsOf e := by
        rw [← hcl]; exact (List.getElem?_eq_some_iff.1 hu).1
      rw [hce i hi]
      exact hu
    · intro y hy
      obtain ⟨i, hi, rfl⟩ := List.mem_map.1 hy
      exact (hf i (List.mem_range.1 hi)).1
theorem opens_fs_one {P : Program} {f : Field} {n : Nat} {α : Type} {d : Kd α} {wf : α → Prop} (hn : f.offset + P.cellsOf f.type = n) (h : Opens P f.type d wf) : OpensFs P [f] f.offset n d wf := fun H enc w base spare held fuel cs hl hx => by
  obtain ⟨x, hx⟩ := hx f (by simp)
  rw [List.take_of_length_le (by rw [List.length_drop]; omega)] at hx
  exact h H enc w base spare held fuel _ _ hx
theorem opens_fs_cons {P : Program} {f : Field} {fs : List Field} {n o : Nat} {α β : Type} {d : Kd α} {d' : Kd β} {wf : α → Prop} {wf' : β → Prop} (ho : f.offset + P.cellsOf f.type = o) (h : Opens P f.type d wf) (h' : OpensFs P fs o n d' wf') :
    OpensFs P (f :: fs) f.offset n (Kd.pair d d') (fun x => wf x.1 ∧ wf' x.2) := fun H enc w base spare held fuel cs hl hx => by
  obtain ⟨x, hx0⟩ := hx f (by simp)
  obtain ⟨a, h1, h2⟩ := h H enc w base spare held fuel _ _ hx0
  obtain ⟨b, h3, h4⟩ := h' H enc w base spare held fuel cs hl (fun g hg => hx g (by simp [hg]))
  refine ⟨(a, b), ⟨_, _, ?_, h1, h3⟩, h2, h4⟩
  rw [← ho, ← List.drop_drop, List.take_append_drop]
theorem opens_struct {P : Program} {t : TypeId} {fs : Array Field} {α β : Type} {d : Kd α} {wf : α → Prop} (g : β → α) (gi : α → β) (hg : ∀ a, g (gi a) = a) (ht : P.underlying t = some (.struct fs)) (h : OpensFs P fs.toList 0 (P.cellsOf t) d wf) : Opens P t (Kd.iso d g) (fun b => wf (g b)) := fun H enc w base spare held fuel cs x hx => by
  obtain ⟨xs, n, rfl, _, hl, hxs, hf⟩ := DataW.trod_struct ht hx
  obtain ⟨a, h1, h2⟩ := h H enc w base spare held n cs hl (fun f hm => by
    obtain ⟨i, hi⟩ := List.getElem?_of_mem hm
    have hi' : fs[i]? = some f := by simpa using hi
    have := hf i f hi'
    have hlt : i < xs.length := by
      have := (Array.getElem?_eq_some_iff.1 hi').1
      omega
    exact ⟨xs[i], this.trans (List.getElem?_eq_getElem hlt)⟩)
  exact ⟨gi a, by simpa [Kd.iso, hg] using h1, by show wf (g (gi a)); rw [hg]; exact h2⟩
/-- An argument that is a slice. -/
theorem arg_slice {P : Program} {t e : TypeId} {α : Type} {d : Kd α} {wf : List α → Prop} {H : Type} {enc : TypeId × Value → H} {w : World} {base : Nat} {spare : Nat → Bool} {held : Bool} {v : Value} {y : DataW H} {ps : List MemPlace} {r : Reach} {b0 : Nat}
    (ht : P.underlying t = some (.slice e)) (ho : Opens P t (Kd.slice e d) wf) (hv : Value.okWide P w r b0 t v) (h : DataW.Trod enc P w base spare held t v y ps) : ∃ (l : List α) (A : Option Addr) (c : Nat), v = .slice A l.length c ∧ l.length ≤ c ∧ d.C w A l.length l ∧ wf l := by
  obtain ⟨a, len, cap, rfl⟩ := okWide_slice ht hv
  obtain ⟨fuel, hf⟩ := h
  obtain ⟨l, ⟨A, c, hcs, hl, hC⟩, hw⟩ := ho H enc w base spare held fuel _ _ hf
  simp [Value.cells] at hcs
  obtain ⟨rfl, rfl, rfl⟩ := hcs
  exact ⟨l, _, _, rfl, hl, hC, hw⟩
/-- An argument that is a struct. -/
theorem arg_struct {P : Program} {t : TypeId} {fs : Array Field} {α : Type} {d : Kd α} {wf : α → Prop} {H : Type} {enc : TypeId × Value → H} {w : World} {base : Nat} {spare : Nat → Bool} {held : Bool} {v : Value} {y : DataW H} {ps : List MemPlace} {r : Reach} {b0 : Nat}
    (ht : P.underlying t = some (.struct fs)) (ho : Opens P t d wf) (hv : Value.okWide P w r b0 t v) (h : DataW.Trod enc P w base spare held t v y ps) : ∃ (a : α) (cs : List Value), v = .agg cs.toArray ∧ d.K w a cs ∧ wf a := by
  obtain ⟨cs, rfl, hsz⟩ := okWide_struct ht hv
  obtain ⟨fuel, hf⟩ := h
  obtain ⟨a, hK, hw⟩ := ho H enc w base spare held fuel _ _ hf
  exact ⟨a, cs.toList, by simp, by simpa [Value.cells] using hK, hw⟩
/-- Where an argument's places lie. -/
theorem arg_lt {P : Program} {t : TypeId} {H : Type} {enc : TypeId × Value → H} {w : World} {base : Nat} {spare : Nat → Bool} {held : Bool} {v : Value} {y : DataW H} {ps : List MemPlace} (h : DataW.Trod enc P w base spare held t v y ps) : ∀ x ∈ ps, x.block < w.heap.size := by
  obtain ⟨m, hm⟩ := h
  exact DataW.trod_lt m _ _ _ hm
end Go.Proofs.Ytobfnncpjkeloaa.Open
