/- Helpers for rows that list package-level variables: a variable that reads as a known datum is the very list that the datum tells, in the words of the printed contracts. No condition beyond what each lemma states. -/
import Derived.Test.YtgipgiejdbhpkaaDoorOpen
import Derived.LaidLaws
import Derived.FnData
namespace Go.Proofs.YtgipgiejdbhpkaaDoor.Laid
open Go.ChangeShapes Go.WideShapes Go.RowKit Go.Deep Go.Proofs.YtgipgiejdbhpkaaDoorW.PrintWords

abbrev rdU (P : Program) (w : World) (base fuel : Nat) := DataW.trod (fun _ => ()) P w base (fun _ => true) false fuel
/-- What reads as data at type t is of the kind d, and the datum is what f tells. -/
def Tells (P : Program) (t : TypeId) {α : Type} (d : Kd α) (f : α → DataW Unit) : Prop :=
  ∀ (w : World) (base fuel : Nat) (cs : List Value) (x : DataW Unit × List MemPlace), rdU P w base fuel t cs = some x → ∃ a : α, d.K w a cs ∧ x.1 = f a
/-- The same for the last fields of a struct. -/
def TellsFs (P : Program) (fs : List Field) (off n : Nat) {α : Type} (d : Kd α) (g : α → List (DataW Unit)) : Prop :=
  ∀ (w : World) (base fuel : Nat) (cs : List Value) (xs : List (DataW Unit × List MemPlace)), cs.length = n → xs.length = fs.length →
    (∀ (i : Nat) (f : Field), fs[i]? = some f → rdU P w base fuel f.type ((cs.drop f.offset).take (P.cellsOf f.type)) = xs[i]?) → ∃ a : α, d.K w a (cs.drop off) ∧ xs.map (·.1) = g a
theorem tells_int {P : Program} {t : TypeId} {k : IntKind} (ht : P.underlying t = some (.int k)) : Tells P t (Kd.int k) (fun n => .lit (.int k n)) := fun w base fuel cs x hx => by
  obtain ⟨n, rfl, rfl, _⟩ := DataW.trod_int ht hx
  exact ⟨n, rfl, rfl⟩
theorem tells_string {P : Program} {t : TypeId} (ht : P.underlying t = some .string) : Tells P t Kd.string (fun s => .lit (.string s.data.toList)) := fun w base fuel cs x hx => by
  obtain ⟨n, rfl, rfl, _⟩ := DataW.trod_string ht hx
  exact ⟨n, rfl, rfl⟩
theorem tells_fs_one {P : Program} {f : Field} {n : Nat} {α : Type} {d : Kd α} {g : α → DataW Unit} (hn : f.offset + P.cellsOf f.type = n) (h : Tells P f.type d g) : TellsFs P [f] f.offset n d (fun a => [g a]) := fun w base fuel cs xs hl hx hi => by
  obtain ⟨y, rfl⟩ : ∃ y, xs = [y] := by
    match xs, hx with
    | [y], _ => exact ⟨y, rfl⟩
  have h0 := hi 0 f rfl
  rw [List.take_of_length_le (by rw [List.length_drop]; omega)] at h0
  obtain ⟨a, h1, h2⟩ := h w base fuel _ y (h0.trans rfl)
  exact ⟨a, h1, by simp [h2]⟩
theorem tells_fs_cons {P : Program} {f : Field} {fs : List Field} {n o : Nat} {α β : Type} {d : Kd α} {d' : Kd β} {g : α → DataW Unit} {g' : β → List (DataW Unit)} (ho : f.offset + P.cellsOf f.type = o) (h : Tells P f.type d g) (h' : TellsFs P fs o n d' g') :
    TellsFs P (f :: fs) f.offset n (Kd.pair d d') (fun x => g x.1 :: g' x.2) := fun w base fuel cs xs hl hx hi => by
  obtain ⟨y, ys, rfl⟩ : ∃ y ys, xs = y :: ys := by
    match xs, hx with
    | y :: ys, _ => exact ⟨y, ys, rfl⟩
  have h0 := hi 0 f rfl
  obtain ⟨a, h1, h2⟩ := h w base fuel _ y (h0.trans rfl)
  obtain ⟨b, h3, h4⟩ := h' w base fuel cs ys hl (by simpa using hx) (fun i f' hf => by
    have := hi (i + 1) f' (by simpa using hf)
    simpa using this)
  refine ⟨(a, b), ⟨_, _, ?_, h1, h3⟩, by simp [h2, h4]⟩
  rw [← ho, ← List.drop_drop, List.take_append_drop]
theorem tells_struct {P : Program} {t : TypeId} {fs : Array Field} {α β : Type} {d : Kd α} {g : α → List (DataW Unit)} (k : β → α) (ki : α → β) (hk : ∀ a, k (ki a) = a) (ht : P.underlying t = some (.struct fs)) (h : TellsFs P fs.toList 0 (P.cellsOf t) d g) : Tells P t (Kd.iso d k) (fun b => .agg (g (k b))) := fun w base fuel cs x hx => by
  obtain ⟨xs, n, rfl, rfl, hl, hxs, hf⟩ := DataW.trod_struct ht hx
  obtain ⟨a, h1, h2⟩ := h w base n cs xs hl (by simpa using hxs) (fun i f hm => hf i f (by simpa using hm))
  exact ⟨ki a, by simpa [Kd.iso, hk] using h1, by simp [hk, h2]⟩
theorem cellsC {P : Program} {w : World} {base : Nat} {e : TypeId} {α : Type} [Inhabited α] {d : Kd α} {f : α → DataW Unit} {a : Addr} {len : Nat} {D : Nat → DataW Unit} (hsz : d.sz = P.cellsOf e) (hm : len ≤ maxLen)
    (hel : ∀ i, i < len → ∃ (y : α), f y = D i ∧ ∃ c, w.cells? base (a.add (i * P.cellsOf e)) (P.cellsOf e) = some c ∧ d.K w y c) : ∃ l : List α, d.C w (some a) l.length l ∧ l.map f = (List.range len).map D := by
  obtain ⟨F, hF⟩ := choose_lt (n := len) (p := fun i y => f y = D i ∧ ∃ c, w.cells? base (a.add (i * P.cellsOf e)) (P.cellsOf e) = some c ∧ d.K w y c) hel
  have hlen : ((List.range len).map F).length = len := by simp
  refine ⟨(List.range len).map F, ?_, ?_⟩
  · refine ⟨rfl, by rw [hlen]; unfold maxLen at hm; omega, fun _ => ⟨a, rfl, fun j p hj => ?_⟩⟩
    obtain ⟨hlt, hp⟩ := List.getElem?_eq_some_iff.1 hj
    rw [hlen] at hlt
    have hp' : F j = p := by simpa using hp
    obtain ⟨_, c, h1, h2⟩ := hF j hlt
    rw [hp'] at h2
    refine ⟨c, d.K_len h2, h2, fun i u hu => ?_⟩
    obtain ⟨hbb, hcl, hce⟩ := World.cells?_some h1
    rw [hsz, ← Deep.add_add]
    have hi : i < P.cellsOf e := by
      rw [← hcl]; exact (List.getElem?_eq_some_iff.1 hu).1
    rw [hce i hi]
    exact hu
  · rw [List.map_map]
    exact List.map_congr_left fun i hi => (hF i (List.mem_range.1 hi)).1
theorem slice_tells {P : Program} {t e : TypeId} {α : Type} [Inhabited α] {d : Kd α} {f : α → DataW Unit} (ht : P.underlying t = some (.slice e)) (hsz : d.sz = P.cellsOf e) (he : Tells P e d f) {w : World} {base fuel : Nat} {cs : List Value} {x : DataW Unit × List MemPlace} (hx : rdU P w base fuel t cs = some x) :
    ∃ l, (Kd.slice e d).K w l cs ∧ (x.1 = .nil ∧ l = [] ∨ ∃ sp, x.1 = .slice (l.map f) sp) := by
  rcases open_slice ht hx with ⟨rfl, rfl⟩ | ⟨a, len, cap, m, n, D, Pl, rfl, _, hl, hm, hmm, rfl, hel⟩
  · exact ⟨[], ⟨none, 0, rfl, Nat.le_refl _, rfl, by simp, fun h => absurd h (by simp)⟩, .inl ⟨rfl, rfl⟩⟩
  · have hlm : len ≤ m := by rw [hmm]; split <;> omega
    obtain ⟨l, hC, hD⟩ := cellsC (a := a) (len := len) (D := D) (d := d) (f := f) (base := base) hsz (by omega) (fun i hi => by
      obtain ⟨c, h1, h2⟩ := hel i (by omega)
      obtain ⟨y, h3, h4⟩ := he w base n c _ h2
      exact ⟨y, h4.symm, c, h1, h3⟩)
    have hll : l.length = len := by have := congrArg List.length hD; simpa using this
    refine ⟨l, ⟨some a, cap, by rw [hll], by rw [hll]; exact hl, hC⟩, .inr ⟨_, by rw [hD]⟩⟩
/-- A variable that holds a slice: its block is 'a slice' of one element. -/
theorem ghost_slice {P : Program} {t e : TypeId} {α : Type} [Inhabited α] {d : Kd α} {f : α → DataW Unit} {W : World} {name : String} {g : Nat} {cs : Array Value} {fuel : Nat} {p : List MemPlace} (tab : List α) {datum : DataW Unit} (ht : P.underlying t = some (.slice e)) (hsz : d.sz = P.cellsOf e) (he : Tells P e d f) (hf : ∀ a b, f a = f b → a = b)
    (hg : P.globalNamed name = some g) (hv : W.var? P name = some cs) (hx : rdU P W 0 fuel t cs.toList = some (datum, p)) (hd : datum = .slice (tab.map f) []) : Kd.C (Kd.slice e d) W (some ⟨g, 0, none⟩) [tab].length [tab] := by
  obtain ⟨l, hK, hl⟩ := slice_tells ht hsz he hx
  have hlt : l = tab := by
    rcases hl with ⟨h1, _⟩ | ⟨sp, h1⟩
    · simp only at h1; rw [hd] at h1; cases h1
    · simp only at h1; rw [hd] at h1; injection h1 with h1 _
      have h2 := h1.symm
      clear h1 hd hK
      induction l generalizing tab with
      | nil => cases tab with
        | nil => rfl
        | cons y ys => simp at h2
      | cons x xs ih => cases tab with
        | nil => simp at h2
        | cons y ys =>
          simp only [List.map_cons, List.cons.injEq] at h2
          rw [hf _ _ h2.1, ih ys h2.2]
  subst hlt
  refine ⟨rfl, by simp, fun _ => ⟨_, rfl, fun j q hj => ?_⟩⟩
  obtain rfl : j = 0 := by
    have := (List.getElem?_eq_some_iff.1 hj).1
    simp at this; exact this
  obtain rfl : l = q := by simpa using hj
  refine ⟨cs.toList, Kd.K_len _ hK, hK, fun i u hu => ?_⟩
  have hc := World.var?_cell hg hv i
  have e1 : (⟨g, 0, none⟩ : Addr).add (0 * (Kd.slice e d).sz + i) = ⟨g, i, none⟩ := by
    rw [Nat.zero_mul, Nat.zero_add]
    unfold Addr.add
    by_cases h0 : i = 0 <;> simp [h0]
  rw [e1, hc]
  simpa using hu
/-- A variable that is an array: its block is its elements. -/
theorem ghost_array {P : Program} {t e : TypeId} {n : Nat} {α : Type} [Inhabited α] {d : Kd α} {f : α → DataW Unit} {W : World} {name : String} {g : Nat} {cs : Array Value} {fuel : Nat} {p : List MemPlace} (tab : List α) {datum : DataW Unit} (ht : P.underlying t = some (.array n e)) (hn : n ≤ maxLen) (hsz : d.sz = P.cellsOf e) (he : Tells P e d f) (hf : ∀ a b, f a = f b → a = b)
    (hg : P.globalNamed name = some g) (hv : W.var? P name = some cs) (hx : rdU P W 0 fuel t cs.toList = some (datum, p)) (hd : datum = .agg (tab.map f)) : Kd.C d W (some ⟨g, 0, none⟩) tab.length tab := by
  obtain ⟨xs, m, rfl, hxe, hcl, hxl, hel⟩ := DataW.trod_array ht hx
  have key : ∀ i, i < n → ∃ y : α, (xs[i]?.map (·.1)) = some (f y) ∧ d.K W y ((cs.toList.drop (i * P.cellsOf e)).take (P.cellsOf e)) := fun i hi => by
    have h1 := hel i hi
    have h2 : xs[i]? = some (xs[i]'(by omega)) := List.getElem?_eq_getElem _
    rw [h2] at h1
    obtain ⟨y, h3, h4⟩ := he W 0 m _ _ h1
    exact ⟨y, by rw [h2]; simp [h4], h3⟩
  have hdl : xs.map (·.1) = tab.map f := by
    have := congrArg Prod.fst hxe
    simp only at this
    rw [hd] at this
    injection this with this
    exact this.symm
  have hlen : tab.length = n := by have := congrArg List.length hdl; simp at this; omega
  refine ⟨rfl, by rw [hlen]; unfold maxLen at hn; omega, fun _ => ⟨_, rfl, fun j q hj => ?_⟩⟩
  have hj0 := (List.getElem?_eq_some_iff.1 hj).1
  have hjn : j < n := by omega
  obtain ⟨y, h1, h2⟩ := key j hjn
  have hy : y = q := by
    apply hf
    have h3 : (xs.map (·.1))[j]? = some (f y) := by rw [List.getElem?_map]; exact h1
    rw [hdl, List.getElem?_map, hj] at h3
    simpa using h3.symm
  subst hy
  refine ⟨_, Kd.K_len _ h2, h2, fun i u hu => ?_⟩
  have hi : i < P.cellsOf e := by
    have := (List.getElem?_eq_some_iff.1 hu).1
    rw [List.length_take] at this
    omega
  rw [List.getElem?_take, if_pos hi, List.getElem?_drop] at hu
  have hc := World.var?_cell hg hv (j * P.cellsOf e + i)
  have e1 : (⟨g, 0, none⟩ : Addr).add (j * d.sz + i) = ⟨g, j * P.cellsOf e + i, none⟩ := by
    rw [hsz]
    generalize j * P.cellsOf e + i = z
    unfold Addr.add
    by_cases h0 : z = 0 <;> simp [h0]
  rw [e1, hc]
  simpa using hu
theorem laid_cons {P : Program} {w : World} {n : String} {x : DataW Unit} {r : List (String × DataW Unit)} {ps : List MemPlace} (h : DataW.LaidVars P w ((n, x) :: r) ps) : ∃ g t cs fuel p q, P.globalNamed n = some g ∧ (P.globals[g]?).map (·.type) = some t ∧ w.var? P n = some cs ∧ rdU P w 0 fuel t cs.toList = some (x, p) ∧ DataW.LaidVars P w r q := by
  obtain ⟨g, t, cs, fuel, p, q, h1, h2, h3, h4, h5, _⟩ := h
  exact ⟨g, t, cs, fuel, p, q, h1, h2, h3, h4, h5⟩
end Go.Proofs.YtgipgiejdbhpkaaDoor.Laid
