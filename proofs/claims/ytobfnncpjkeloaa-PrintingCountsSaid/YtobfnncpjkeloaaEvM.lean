/- Maps whose keys are whole numbers or texts, and whose values are numbers or truth values: what a look-up and a store do. No condition beyond those told at each law. -/
import Derived.WalkKit
import Derived.Tactics
import Derived.Carry
import Derived.MapKept
import Derived.Test.YtobfnncpjkeloaaWLast
namespace Go.Proofs.Ytobfnncpjkeloaa.Ev
open Go Go.Instr
/-- What a map with keys of kind ki answers where there is none: vi: a number, else a truth value. -/
def zeroM (vi : Bool) : Value := if vi = true then .int .i64 0 else .bool false
/-- A key: a number, or a text. -/
inductive KeyM : Bool → Value → Prop
  | i (n : Int) : KeyM true (.int .i64 n)
  | s (b : ByteArray) : KeyM false (.string b)
def kindM (ki : Bool) : TypeDesc → Bool
  | .int .i64 => ki
  | .string => !ki
  | _ => false
def elemM (vi : Bool) : TypeDesc → Bool
  | .int .i64 => vi
  | .bool => !vi
  | _ => false
/-- What is found under a key. -/
def LookM (z : Value) : List MapEntry → Value → Value → Prop
  | [], _, v => v = z
  | e :: es, k, v => (e.key = k ∧ v = e.val) ∨ (e.key ≠ k ∧ LookM z es k v)
theorem kind_i {d : TypeDesc} (h : kindM true d = true) : d = .int .i64 := by
  unfold kindM at h
  split at h <;> simp_all
theorem kind_s {d : TypeDesc} (h : kindM false d = true) : d = .string := by
  unfold kindM at h
  split at h <;> simp_all
theorem elem_i {d : TypeDesc} (h : elemM true d = true) : d = .int .i64 := by
  unfold elemM at h
  split at h <;> simp_all
theorem elem_b {d : TypeDesc} (h : elemM false d = true) : d = .bool := by
  unfold elemM at h
  split at h <;> simp_all
theorem sameNow_ok {ki : Bool} {d : TypeDesc} (hd : kindM ki d = true) {a b : Value} (ha : KeyM ki a) (hb : KeyM ki b) : (sameNow d a b = some true ∧ a = b) ∨ (sameNow d a b = some false ∧ a ≠ b) := by
  cases ha with
  | i n =>
    cases hb with
    | i m =>
      obtain rfl := kind_i hd
      by_cases c : n = m
      · subst c; exact .inl ⟨by simp [sameNow], rfl⟩
      · exact .inr ⟨by simp [sameNow, c], fun e => c (by cases e; rfl)⟩
  | s x =>
    cases hb with
    | s y =>
      obtain rfl := kind_s hd
      have e : (x == y) = (x.data == y.data) := rfl
      by_cases c : x = y
      · subst c; exact .inl ⟨by show some (x == x) = some true; rw [e]; simp, rfl⟩
      · refine .inr ⟨?_, fun e => c (by cases e; rfl)⟩
        show some (x == y) = some false
        rw [e]
        have : x.data ≠ y.data := fun q => c (ByteArray.ext q)
        simp [this]
/-- The search: the place and the value, or nothing. -/
theorem findNow_ok {ki : Bool} {d : TypeDesc} (hd : kindM ki d = true) {k : Value} (hk : KeyM ki k) (z : Value) : ∀ (es : List MapEntry) (i : Nat), (∀ e ∈ es, KeyM ki e.key) →
    (findNow d k es i = some none ∧ (∀ e ∈ es, e.key ≠ k) ∧ LookM z es k z) ∨ (∃ j e, findNow d k es i = some (some (i + j, e.val)) ∧ es[j]? = some e ∧ e.key = k ∧ (∀ j' e', j' < j → es[j']? = some e' → e'.key ≠ k) ∧ LookM z es k e.val) := by
  intro es
  induction es with
  | nil => intro i _; exact .inl ⟨rfl, fun _ h => (nomatch h), rfl⟩
  | cons e es ih =>
    intro i he
    rcases sameNow_ok hd hk (he e (List.mem_cons_self ..)) with ⟨h1, h2⟩ | ⟨h1, h2⟩
    · exact .inr ⟨0, e, by simp [findNow, h1], rfl, h2.symm, fun _ _ h => absurd h (Nat.not_lt_zero _), .inl ⟨h2.symm, rfl⟩⟩
    · rcases ih (i + 1) (fun x hx => he x (List.mem_cons_of_mem _ hx)) with ⟨h3, h4, h5⟩ | ⟨j, e', h3, h4, h5, h6, h7⟩
      · exact .inl ⟨by simp [findNow, h1, h3], fun x hx => by rcases List.mem_cons.1 hx with rfl | hx; exact fun q => h2 q.symm; exact h4 x hx, .inr ⟨fun q => h2 q.symm, h5⟩⟩
      · refine .inr ⟨j + 1, e', by simp [findNow, h1, h3]; omega, h4, h5, fun j' x hj hx => ?_, .inr ⟨fun q => h2 q.symm, h7⟩⟩
        cases j' with
        | zero => simp at hx; subst hx; exact fun q => h2 q.symm
        | succ j' => exact h6 j' x (by omega) (by simpa using hx)
theorem look_one {z : Value} {k v v' : Value} : ∀ {es : List MapEntry}, LookM z es k v → LookM z es k v' → v = v' := by
  intro es
  induction es with
  | nil => intro h h'; exact h.trans h'.symm
  | cons e es ih =>
    intro h h'
    rcases h with ⟨h1, h2⟩ | ⟨h1, h2⟩ <;> rcases h' with ⟨h3, h4⟩ | ⟨h3, h4⟩
    · rw [h2, h4]
    · exact absurd h1 h3
    · exact absurd h3 h1
    · exact ih h2 h4
/-- A store where the key is there. -/
theorem look_modify {z : Value} {k v : Value} : ∀ {es : List MapEntry} {j : Nat} {e : MapEntry}, es[j]? = some e → e.key = k → (∀ j' e', j' < j → es[j']? = some e' → e'.key ≠ k) → ∀ {k' u : Value}, (k' = k → u = v) → (k' ≠ k → LookM z es k' u) → LookM z (es.modify j fun x => { x with key := k, val := v }) k' u := by
  intro es
  induction es with
  | nil => intro j e h; exact absurd h (by simp)
  | cons x es ih =>
    intro j e h hk hb k' u h1 h2
    cases j with
    | zero =>
      simp at h; subst h
      by_cases c : k' = k
      · rw [List.modify_zero_cons]; exact .inl ⟨c.symm, h1 c⟩
      · rw [List.modify_zero_cons]
        refine .inr ⟨fun q => c q.symm, ?_⟩
        rcases h2 c with ⟨q, _⟩ | ⟨_, q⟩
        · exact absurd (q.symm.trans hk) c
        · exact q
    | succ j =>
      rw [List.modify_succ_cons]
      have hx : x.key ≠ k := hb 0 x (by omega) rfl
      by_cases c : k' = k
      · subst c
        exact .inr ⟨hx, ih (by simpa using h) hk (fun j' e' hj he => hb (j' + 1) e' (by omega) (by simpa using he)) h1 (fun q => absurd rfl q)⟩
      · rcases h2 c with ⟨q, q2⟩ | ⟨q, q2⟩
        · exact .inl ⟨q, q2⟩
        · exact .inr ⟨q, ih (by simpa using h) hk (fun j' e' hj he => hb (j' + 1) e' (by omega) (by simpa using he)) h1 (fun _ => q2)⟩
/-- A store where it is not. -/
theorem look_push {z : Value} {k v : Value} {c : Nat} : ∀ {es : List MapEntry}, (∀ e ∈ es, e.key ≠ k) → ∀ {k' u : Value}, (k' = k → u = v) → (k' ≠ k → LookM z es k' u) → LookM z (es ++ [{ key := k, val := v, born := c }]) k' u := by
  intro es
  induction es with
  | nil =>
    intro _ k' u h1 h2
    by_cases q : k' = k
    · exact .inl ⟨q.symm, h1 q⟩
    · exact .inr ⟨fun e => q e.symm, h2 q⟩
  | cons x es ih =>
    intro hn k' u h1 h2
    have hx : x.key ≠ k := hn x (List.mem_cons_self ..)
    have ih := @ih (fun e he => hn e (List.mem_cons_of_mem _ he)) k' u h1
    by_cases q : k' = k
    · subst q; exact .inr ⟨hx, ih (fun q => absurd rfl q)⟩
    · rcases h2 q with ⟨a, b⟩ | ⟨a, b⟩
      · exact .inl ⟨a, b⟩
      · exact .inr ⟨a, ih (fun _ => b)⟩
section run
variable {P : Program} {w : World}
theorem run_under {t : TypeId} {d : TypeDesc} (h : P.underlying t = some d) : (underlying t).run P w = .ok d w := run_underlying h w
theorem run_check {ki : Bool} {kt : TypeId} {dk : TypeDesc} (hk : P.underlying kt = some dk) (hki : kindM ki dk = true) {k : Value} (hkey : KeyM ki k) (b : Bool) : (checkKey b 10000 kt k).run P w = .ok () w := by
  unfold checkKey
  rw [Sem.run_bind, run_under hk]
  cases hkey
  · obtain rfl := kind_i hki; rfl
  · obtain rfl := kind_s hki; rfl
theorem run_find {kt : TypeId} {dk : TypeDesc} (hk : P.underlying kt = some dk) {k : Value} {es : List MapEntry} {r : Option (Nat × Value)} (h : findNow dk k es 0 = some r) : (findKey kt k es).run P w = .ok r w := by
  unfold findKey
  rw [Sem.run_bind, run_under hk]
  simp only [Result.andThen, h]
  rfl
theorem run_lookM {ki vi : Bool} {t kt et : TypeId} {dk : TypeDesc} (ht : P.underlying t = some (.map kt et)) (hk : P.underlying kt = some dk) (hki : kindM ki dk = true) {r c : Nat} {es : Array MapEntry} (hr : w.heap[r]? = some (.map es c)) (hes : ∀ e ∈ es.toList, KeyM ki e.key) {k v : Value} (hkey : KeyM ki k) (hv : LookM (zeroM vi) es.toList k v) (hz : (zeroValue et).run P w = .ok (zeroM vi) w) :
    (lookup t (.map (some r)) k false).run P w = .ok v w := by
  rcases findNow_ok hki hkey (zeroM vi) es.toList 0 hes with ⟨h1, _, h2⟩ | ⟨j, e, h1, _, _, _, h2⟩
  · obtain rfl := look_one hv h2
    simp [lookup, Sem.run_bind, run_under ht, MapKept.run_getObj_map hr, run_check hk hki hkey, run_find hk h1, hz]
  · obtain rfl := look_one hv h2
    simp [lookup, Sem.run_bind, run_under ht, MapKept.run_getObj_map hr, run_check hk hki hkey, run_find hk h1]
theorem same_bits {ki : Bool} {k : Value} (h : KeyM ki k) : sameBits 10000 k k = true := by
  cases h
  · simp [sameBits]
  · rename_i b
    show (b == b) = true
    have e : (b == b) = (b.data == b.data) := rfl
    rw [e]; simp
theorem run_putM {ki : Bool} {t kt et : TypeId} {dk : TypeDesc} (ht : P.underlying t = some (.map kt et)) (hk : P.underlying kt = some dk) (hki : kindM ki dk = true) {r c : Nat} {es : Array MapEntry} (hr : w.heap[r]? = some (.map es c)) (hes : ∀ e ∈ es.toList, KeyM ki e.key) {k v z : Value} (hkey : KeyM ki k) :
    ∃ es' c', (mapUpdate t (.map (some r)) k v).run P w = .ok () { w with heap := w.heap.setIfInBounds r (.map es' c') } ∧ (∀ e ∈ es'.toList, KeyM ki e.key) ∧ ∀ k' u, (k' = k → u = v) → (k' ≠ k → LookM z es.toList k' u) → LookM z es'.toList k' u := by
  rcases findNow_ok hki hkey z es.toList 0 hes with ⟨h1, h2, _⟩ | ⟨j, e, h1, h2, h3, h4, _⟩
  · refine ⟨es.push { key := k, val := v, born := c }, c + 1, ?_, fun e he => ?_, fun k' u h5 h6 => ?_⟩
    · simp [mapUpdate, Sem.run_bind, run_under ht, MapKept.run_getObj_map hr, run_check hk hki hkey, run_find hk h1, MapKept.run_setObj_map _ hr]
    · rw [Array.toList_push] at he
      rcases List.mem_append.1 he with h | h
      · exact hes e h
      · rw [List.mem_singleton.1 h]; exact hkey
    · rw [Array.toList_push]; exact look_push h2 h5 h6
  · have hj : es[j]? = some e := by simpa using h2
    refine ⟨es.modify j fun x => { x with key := k, val := v }, c, ?_, fun e' he => ?_, fun k' u h5 h6 => ?_⟩
    · have hkt : (keyThatStays (((es[j]?).map (·.key)).getD k) k).run P w = .ok k w := by
        rw [hj]
        show (keyThatStays e.key k).run P w = _
        unfold keyThatStays
        rw [h3, if_pos (same_bits hkey)]; rfl
      simp [mapUpdate, Sem.run_bind, run_under ht, MapKept.run_getObj_map hr, run_check hk hki hkey, run_find hk h1, hkt, MapKept.run_setObj_map _ hr]
    · rw [Array.toList_modify] at he
      obtain ⟨i, hi, e1⟩ := List.mem_iff_getElem.1 he
      rw [List.getElem_modify] at e1
      split at e1
      · rw [← e1]; exact hkey
      · rw [← e1]; exact hes _ (List.getElem_mem _)
    · rw [Array.toList_modify]
      exact look_modify h2 h3 h4 h5 h6
theorem run_makeM (t : TypeId) : (makeMap t none).run P w = .ok (.map (some w.heap.size)) { w with heap := w.heap.push (.map #[] 0) } := by
  simp [makeMap]
end run
end Go.Proofs.Ytobfnncpjkeloaa.Ev
