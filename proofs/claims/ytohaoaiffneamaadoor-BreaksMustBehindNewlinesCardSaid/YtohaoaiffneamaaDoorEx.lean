/- A plain reading of code without loops that computes with whole numbers and truth values, and calls: 'cwp' is a statement over the numbers alone, and what it says holds of the machine's run ('cwp_ok'). No condition beyond what each lemma states. -/
import Derived.WalkKit
import Derived.Tactics
import Derived.Test.YtohaoaiffneamaaDoorWLast
namespace Go.Proofs.YtohaoaiffneamaaDoor.Ex
open Go Go.Proofs.YtohaoaiffneamaaDoorW.PrintLast
/-- A scalar; what a slot may hold. -/
inductive PS where
  | int (k : IntKind) (n : Int)
  | bool (b : Bool)
def PS.val : PS → Value
  | .int k n => .int k n
  | .bool b => .bool b
inductive PV where
  | one (s : PS)
  | tup (l : List PS)
def PV.val : PV → Value
  | .one s => s.val
  | .tup l => .tuple (l.map PS.val).toArray
/-- What is known of slots: the slot, the guard (a slot and what it holds) under which it was written, its value. -/
abbrev En := List (Nat × Option (Nat × Bool) × PV)
def okAt (T : Array Value) (x : Nat × Option (Nat × Bool) × PV) : Prop := x.1 < T.size ∧ match x.2.1 with
  | none => T.getD x.1 undef = x.2.2.val
  | some (s, b) => (T.getD s undef = .bool b → T.getD x.1 undef = x.2.2.val) ∧ (T.getD s undef ≠ .bool b → T.getD x.1 undef = undef)
def okE (T : Array Value) (E : En) : Prop := ∀ x ∈ E, okAt T x
def findE (E : En) (t : Nat) : Option (Option (Nat × Bool) × PV) := (List.find? (fun x => x.1 == t) E).map (·.2)
def upE (E : En) : Nat → Nat → List (Nat × Bool)
  | 0, _ => []
  | k + 1, s => match findE E s with
    | some (some g, _) => g :: upE E k g.1
    | _ => []
def gsOf (E : En) (s : Nat) (b : Bool) : List (Nat × Bool) := (s, b) :: upE E 8 s
def holdsG (T : Array Value) (G : List (Nat × Bool)) : Prop := ∀ g ∈ G, T.getD g.1 undef = .bool g.2
theorem find_mem {E : En} {t : Nat} {y : Option (Nat × Bool) × PV} (h : findE E t = some y) : (t, y) ∈ E := by
  unfold findE at h
  obtain ⟨x, hx, rfl⟩ := Option.map_eq_some_iff.1 h
  have := List.find?_some hx
  have e : x.1 = t := by simpa using this
  subst e
  exact List.mem_of_find?_eq_some hx
theorem undef_bool (b : Bool) : undef ≠ Value.bool b := by unfold undef; exact fun h => by cases h
theorem up_ok {E : En} {T : Array Value} (hE : okE T E) : ∀ (k s : Nat) (b : Bool), T.getD s undef = .bool b → holdsG T (upE E k s) := by
  intro k
  induction k with
  | zero => intro s b _ g hg; cases hg
  | succ k ih =>
    intro s b hs g hg
    unfold upE at hg
    split at hg
    · rename_i g' v hf
      have h1 := (hE _ (find_mem hf)).2
      simp only at h1
      have h2 : T.getD g'.1 undef = .bool g'.2 := by
        by_cases c : T.getD g'.1 undef = .bool g'.2
        · exact c
        · have := h1.2 c; rw [hs] at this; exact absurd this.symm (undef_bool b)
      rcases List.mem_cons.1 hg with rfl | h
      · exact h2
      · exact ih g'.1 g'.2 h2 g h
    · cases hg
theorem gs_ok {E : En} {T : Array Value} (hE : okE T E) {s : Nat} {b : Bool} (hs : T.getD s undef = .bool b) : holdsG T (gsOf E s b) := fun g hg => by
  rcases List.mem_cons.1 hg with rfl | h
  · exact hs
  · exact up_ok hE 8 s b hs g h
def lookE (E : En) (G : List (Nat × Bool)) (t : Nat) : Option PV := match findE E t with
  | some (none, v) => some v
  | some (some g, v) => if G.contains g then some v else none
  | none => none
theorem look_ok {E : En} {T : Array Value} {G : List (Nat × Bool)} {t : Nat} {v : PV} (hE : okE T E) (hG : holdsG T G) (h : lookE E G t = some v) : T.getD t undef = v.val := by
  unfold lookE at h
  split at h
  · rename_i v' hf
    obtain rfl := Option.some.inj h
    exact (hE _ (find_mem hf)).2
  · rename_i g v' hf
    split at h
    · rename_i hc
      obtain rfl := Option.some.inj h
      have h1 := (hE _ (find_mem hf)).2
      exact h1.1 (hG g (by simpa using hc))
    · cases h
  · cases h
def opnd (E : En) (G : List (Nat × Bool)) : Operand → Option PV
  | .tmp t => lookE E G t
  | .const (.int k n) => some (.one (.int k n))
  | .const (.bool b) => some (.one (.bool b))
  | _ => none
theorem opnd_ok {E : En} {a : Act} {G : List (Nat × Bool)} {x : Operand} {v : PV} (hE : okE a.tmps E) (hG : holdsG a.tmps G) (h : opnd E G x = some v) : a.eval x = v.val := by
  unfold opnd at h
  split at h
  · exact look_ok hE hG h
  · obtain rfl := Option.some.inj h; rfl
  · obtain rfl := Option.some.inj h; rfl
  · cases h
theorem mapM_opnd {E : En} {a : Act} {G : List (Nat × Bool)} (hE : okE a.tmps E) (hG : holdsG a.tmps G) : ∀ {xs : List Operand} {vs : List PV}, xs.mapM (opnd E G) = some vs → xs.map a.eval = vs.map PV.val := by
  intro xs
  induction xs with
  | nil => intro vs h; simp at h; subst h; rfl
  | cons x xs ih =>
    intro vs h
    simp only [List.mapM_cons, Option.bind_eq_bind, Option.bind_eq_some_iff, Option.pure_def, Option.some.injEq] at h
    obtain ⟨v, hv, vs', hvs, rfl⟩ := h
    simp [opnd_ok hE hG hv, ih hvs]
def cmpOf : BinOp → Option (Int → Int → Bool)
  | .eql => some fun a b => a == b
  | .neq => some fun a b => a != b
  | .lss => some fun a b => decide (a < b)
  | .leq => some fun a b => decide (a ≤ b)
  | .gtr => some fun a b => decide (a > b)
  | .geq => some fun a b => decide (a ≥ b)
  | _ => none
def condOf (E : En) : List (Nat × Bool) → Bool
  | [] => true
  | (s, b) :: r => (match findE E s with | some (_, .one (.bool sb)) => sb == b | _ => true) && condOf E r
theorem cond_ok {E : En} {T : Array Value} (hE : okE T E) : ∀ (G : List (Nat × Bool)), holdsG T G → condOf E G = true := by
  intro G
  induction G with
  | nil => intro _; rfl
  | cons g r ih =>
    intro hG
    unfold condOf
    rw [Bool.and_eq_true]
    refine ⟨?_, ih (fun x hx => hG x (List.mem_cons_of_mem _ hx))⟩
    have h0 := hG g (List.mem_cons_self ..)
    split
    · rename_i y sb hf
      have h1 := (hE _ (find_mem hf)).2
      simp only at h1
      have h2 : T.getD g.1 undef = .bool sb := by
        cases y with
        | none => exact h1
        | some q =>
          by_cases c : T.getD q.1 undef = .bool q.2
          · exact h1.1 c
          · have := h1.2 c; rw [h0] at this; exact absurd this.symm (undef_bool _)
      rw [h0] at h2
      injection h2 with h2
      rw [h2]; simp
    · rfl
def dropE (d : Nat) (E : En) : En := E.filter fun x => x.1 != d && (match x.2.1 with | some (s, _) => s != d | none => true)
theorem drop_ok {E : En} {T : Array Value} {d : Nat} {v : Value} (hE : okE T E) : okE (T.setIfInBounds d v) (dropE d E) := fun x hx => by
  obtain ⟨h1, h2⟩ := List.mem_filter.1 hx
  have h3 := hE x h1
  have get : ∀ t, t ≠ d → (T.setIfInBounds d v).getD t undef = T.getD t undef := fun t ht => by
    simp only [Array.getD_eq_getD_getElem?, Array.getElem?_setIfInBounds]
    rw [if_neg (fun h => ht h.symm)]
  obtain ⟨d', g, pv⟩ := x
  simp only [Bool.and_eq_true, bne_iff_ne, ne_eq] at h2
  refine ⟨by simpa using h3.1, ?_⟩
  cases g with
  | none => simp only; rw [get d' h2.1]; exact h3.2
  | some q =>
    obtain ⟨s, b⟩ := q
    have hs : s ≠ d := by simpa using h2.2
    simp only; rw [get d' h2.1, get s hs]; exact h3.2
section run
variable {P : Program} {ρ : Operand → Value} {w : World} {dst : Option Tmp} {ty : TypeId} {pos : String} {after : Array Edge} {guard : Option (Nat × Bool)}
theorem ex_pick {c x y : Operand} {b : Bool} {v : Value} (h : ρ c = .bool b) (hv : (if b = true then ρ x else ρ y) = v) : (execOp ρ ⟨dst, .pick c x y, ty, pos, after, guard⟩).run P w = .ok (.value v) w := by
  subst hv
  cases b <;> simp [execOp, h, go_sem, asBool]
theorem ex_bin {B : BinOp} {f : Int → Int → Bool} {x y : Operand} {t t2 : TypeId} {k : IntKind} {a b : Int} (hf : cmpOf B = some f) (h : ρ x = .int k a) (h2 : ρ y = .int k b) : (execOp ρ ⟨dst, .binOp B t x y t2, ty, pos, after, guard⟩).run P w = .ok (.value (.bool (f a b))) w := by
  cases B <;> simp only [cmpOf, Option.some.injEq, reduceCtorEq] at hf <;> subst hf <;> simp [execOp, h, h2, go_sem]
theorem ex_not {x : Operand} {t : TypeId} {b : Bool} (h : ρ x = .bool b) : (execOp ρ ⟨dst, .unOp .not t x, ty, pos, after, guard⟩).run P w = .ok (.value (.bool (!b))) w := by
  simp [execOp, h, go_sem]
theorem ex_extract {x : Operand} {i : Nat} {l : Array Value} {v : Value} (h : ρ x = .tuple l) (h2 : l[i]? = some v) : (execOp ρ ⟨dst, .extract x i, ty, pos, after, guard⟩).run P w = .ok (.value v) w := by
  simp [execOp, h, h2, go_sem]
end run
/-- One operation. M: what a call answers; D: what stands for an answer that is never asked for. C: the operation's guard. -/
def v1 {α : Type} (M : FuncId → List PV → Option PV) (D : FuncId → PV) (E : En) (G : List (Nat × Bool)) (C : Option Bool) (o : Op) (k : PV → Option α) : Option α := match o with
  | .move x => (match opnd E G x with | some v => k v | none => none)
  | .assign x => (match opnd E G x with | some v => k v | none => none)
  | .binOp B _ x y _ => (match opnd E G x, opnd E G y with
    | some (.one (.int k1 a)), some (.one (.int k2 b)) => if k1 = k2 then (match cmpOf B with | some f => k (.one (.bool (f a b))) | none => none) else none
    | _, _ => none)
  | .unOp .not _ x => (match opnd E G x with | some (.one (.bool b)) => k (.one (.bool (!b))) | _ => none)
  | .pick (.tmp s) x y => (match lookE E G s with
    | some (.one (.bool cb)) => (match opnd E (G ++ gsOf E s true) x, opnd E (G ++ gsOf E s false) y with
      | some (.one (.bool p)), some (.one (.bool q)) => k (.one (.bool (bif cb then p else q)))
      | some (.one (.int k1 p)), some (.one (.int k2 q)) => if k1 = k2 then k (.one (.int k1 (bif cb then p else q))) else none
      | _, _ => none)
    | _ => none)
  | .extract x i => (match opnd E G x with | some (.tup l) => (match l[i]? with | some s => k (.one s) | none => none) | _ => none)
  | .call ⟨.value (.func f), xs, _⟩ => (match xs.toList.mapM (opnd E G) with
    | some vs => (match C with
      | none => (M f vs).bind k
      | some c => if c = true then (M f vs).bind k else k (D f))
    | none => none)
  | _ => none
/-- A function with a body of its own. -/
def goesTo (P : Program) (f : FuncId) : Prop := ∃ fn, P.funcs[f]? = some fn ∧ (fn.name == "runtime.NumGoroutine") = false ∧ fn.body.isSome = true
section ops
variable {α : Type} {P : Program} {M : FuncId → List PV → Option PV} {D : FuncId → PV} {R : World → Prop} {z : α} (hM : ∀ f vs v W, M f vs = some v → R W → goesTo P f ∧ Calls P f (vs.map PV.val).toArray W (fun e W' => e = .returned v.val ∧ R W'))
theorem holdsG_app {T : Array Value} {G H : List (Nat × Bool)} (h : holdsG T G) (k : holdsG T H) : holdsG T (G ++ H) := fun g hg => (List.mem_append.1 hg).elim (h g) (k g)
theorem wp_value {o : Oper} {a : Act} {w : World} {v : Value} {Kc : Act → World → Prop} {Q : Exit → Act → World → Prop} (h : (execOp a.eval o).run P w = .ok (.value v) w) (hk : Kc (a.put o.dst v) w) : o.wp P a w Kc Q := by
  unfold Oper.wp; rw [h]; exact hk
include hM in
theorem call_ok {E : En} {G : List (Nat × Bool)} {a : Act} {w : World} {dst : Option Tmp} {ty : TypeId} {pos : String} {after : Array Edge} {guard : Option (Nat × Bool)} {f : FuncId} {xs : Array Operand} {ats : Array TypeId} {vs : List PV} {v : PV}
    (hE : okE a.tmps E) (hG : holdsG a.tmps G) (hvs : xs.toList.mapM (opnd E G) = some vs) (hv : M f vs = some v) (hR : R w) (Kc : Act → World → Prop) (Q : Exit → Act → World → Prop) (hk : ∀ W', R W' → Kc (a.put dst v.val) W') :
    Oper.wp P ⟨dst, .call ⟨.value (.func f), xs, ats⟩, ty, pos, after, guard⟩ a w Kc Q := by
  unfold Oper.wp
  rw [execOp_call_go]
  have e1 : (#[] ++ xs.map a.eval ++ #[] : Array Value) = (vs.map PV.val).toArray := by
    rw [← mapM_opnd hE hG hvs]; apply Array.toList_inj.1; simp
  rw [e1]
  obtain ⟨⟨fn, hf, hname, hb⟩, hcalls⟩ := hM f vs v w hv hR
  rw [enters_ hf hname hb _ w, Oper.upon_enter]
  refine hcalls.mono ?_
  rintro e W' ⟨rfl, hR'⟩
  exact hk W' hR'
include hM in
theorem v1_ok {E : En} {G : List (Nat × Bool)} {C : Option Bool} {o : Oper} {k : PV → Option α} {a : Act} {w : World} (h : v1 M D E G C o.op k = some z) (hE : okE a.tmps E) (hR : R w) :
    ∃ v, k v = some z ∧ (holdsG a.tmps G → (∀ c, C = some c → c = true) → ∀ (Kc : Act → World → Prop) (Q : Exit → Act → World → Prop), (∀ W', R W' → Kc (a.put o.dst v.val) W') → o.wp P a w Kc Q) := by
  obtain ⟨dst, op, ty, pos, after, guard⟩ := o
  simp only at h
  unfold v1 at h
  split at h
  · split at h
    · rename_i v hv
      refine ⟨v, h, fun hG _ Kc Q hk => wp_value (v := v.val) ?_ (hk w hR)⟩
      rw [← opnd_ok hE hG hv]; rfl
    · cases h
  · split at h
    · rename_i v hv
      refine ⟨v, h, fun hG _ Kc Q hk => wp_value (v := v.val) ?_ (hk w hR)⟩
      rw [← opnd_ok hE hG hv]; rfl
    · cases h
  · rename_i B T x y T2
    split at h
    · rename_i k1 p k2 q hx hy
      split at h
      · rename_i hk12
        subst hk12
        split at h
        · rename_i f hf
          exact ⟨_, h, fun hG _ Kc Q hk => wp_value (ex_bin hf (opnd_ok hE hG hx) (opnd_ok hE hG hy)) (hk w hR)⟩
        · cases h
      · cases h
    · cases h
  · rename_i T x
    split at h
    · rename_i b hx
      exact ⟨_, h, fun hG _ Kc Q hk => wp_value (ex_not (opnd_ok hE hG hx)) (hk w hR)⟩
    · cases h
  · rename_i s x y
    split at h
    · rename_i cb hs
      split at h
      · rename_i p q hx hy
        refine ⟨_, h, fun hG _ Kc Q hk => wp_value (v := .bool (bif cb then p else q)) ?_ (hk w hR)⟩
        have e0 : a.eval (.tmp s) = .bool cb := look_ok hE hG hs
        refine ex_pick e0 ?_
        cases cb with
        | true => rw [if_pos rfl]; exact opnd_ok hE (holdsG_app hG (gs_ok hE (s := s) (b := true) e0)) hx
        | false => rw [if_neg (by decide)]; exact opnd_ok hE (holdsG_app hG (gs_ok hE (s := s) (b := false) e0)) hy
      · rename_i k1 p k2 q hx hy
        split at h
        · rename_i hk12
          subst hk12
          refine ⟨_, h, fun hG _ Kc Q hk => wp_value (v := .int k1 (bif cb then p else q)) ?_ (hk w hR)⟩
          have e0 : a.eval (.tmp s) = .bool cb := look_ok hE hG hs
          refine ex_pick e0 ?_
          cases cb with
          | true => rw [if_pos rfl]; exact opnd_ok hE (holdsG_app hG (gs_ok hE (s := s) (b := true) e0)) hx
          | false => rw [if_neg (by decide)]; exact opnd_ok hE (holdsG_app hG (gs_ok hE (s := s) (b := false) e0)) hy
        · cases h
      · cases h
    · cases h
  · rename_i x i
    split at h
    · rename_i l hx
      split at h
      · rename_i s hs
        refine ⟨_, h, fun hG _ Kc Q hk => wp_value (v := s.val) ?_ (hk w hR)⟩
        exact ex_extract (opnd_ok hE hG hx) (by simp [hs])
      · cases h
    · cases h
  · rename_i f xs ats
    split at h
    · rename_i vs hvs
      split at h
      · obtain ⟨v, h1, h2⟩ := Option.bind_eq_some_iff.1 h
        exact ⟨v, h2, fun hG _ Kc Q hk => call_ok hM hE hG hvs h1 hR Kc Q hk⟩
      · rename_i c
        split at h
        · obtain ⟨v, h1, h2⟩ := Option.bind_eq_some_iff.1 h
          exact ⟨v, h2, fun hG _ Kc Q hk => call_ok hM hE hG hvs h1 hR Kc Q hk⟩
        · rename_i hc
          exact ⟨_, h, fun hG hC => absurd (hC c rfl) hc⟩
    · cases h
  · cases h
def rwp {α : Type} (M : FuncId → List PV → Option PV) (D : FuncId → PV) (n : Nat) (ops : Array Oper) : List Oper → En → (En → Option α) → Option α
  | [], E, K => K E
  | o :: r, E, K => match o.dst with
    | none => none
    | some d => if d < n then (match o.guard with
      | none => v1 M D E [] none o.op (fun v => rwp M D n ops r ((d, none, v) :: dropE d E) K)
      | some (j, b) => (match (ops[j]?).bind (·.dst) with
        | some s => if s ≠ d ∧ s < n then v1 M D E (gsOf E s b) (some (condOf E (gsOf E s b))) o.op (fun v => rwp M D n ops r ((d, some (s, b), v) :: dropE d E) K) else none
        | none => none)) else none
theorem put_get {a : Act} {d : Nat} {v : Value} (h : d < a.tmps.size) : (a.put (some d) v).tmps.getD d undef = v := by
  simp [Act.put, Array.getD_eq_getD_getElem?, h]
theorem put_far {a : Act} {d s : Nat} {v : Value} (h : s ≠ d) : (a.put (some d) v).tmps.getD s undef = a.tmps.getD s undef := by
  simp only [Act.put, Array.getD_eq_getD_getElem?, Array.getElem?_setIfInBounds]
  rw [if_neg (fun e => h e.symm)]
theorem yielded_iff {ops : Array Oper} {T : Array Value} {j s : Nat} {b : Bool} (hj : (ops[j]?).bind (·.dst) = some s) (hs : s < T.size) : (yielded ops T j == some b) = true ↔ T.getD s undef = .bool b := by
  unfold yielded
  rw [hj]
  simp only [Option.bind_some, Array.getD_eq_getD_getElem?, Array.getElem?_eq_getElem hs, Option.getD_some]
  cases T[s] <;> simp
include hM in
theorem rwp_ok {n : Nat} {ops : Array Oper} {Q : Exit → Act → World → Prop} : ∀ (l : List Oper) (E : En) (a : Act) (w : World) (K : En → Option α), rwp M D n ops l E K = some z → okE a.tmps E → a.tmps.size = n → R w →
    (∀ (a' : Act) (W' : World) (E' : En), a'.tmps.size = n → a'.defers = a.defers → okE a'.tmps E' → R W' → K E' = some z → Q .normal a' W') → wpList P ops Q l a w := by
  intro l
  induction l with
  | nil => intro E a w K h hE hn hR hQ; exact wpList_nil (hQ a w E hn rfl hE hR h)
  | cons o r ih =>
    intro E a w K h hE hn hR hQ
    unfold rwp at h
    split at h
    · cases h
    · rename_i d hd
      split at h
      case isFalse => cases h
      rename_i hdn
      refine wpList_step (fun Kc hKc => ?_)
      have hput : ∀ (u : Value), (a.put (some d) u).tmps.size = n := fun u => by simp [Act.put, hn]
      have hdef : ∀ (u : Value), (a.put (some d) u).defers = a.defers := fun u => rfl
      split at h
      · rename_i hg
        rw [if_pos (by simp [Region.wanted, hg])]
        obtain ⟨v, h1, h2⟩ := v1_ok hM h hE hR
        refine h2 (fun g hg => by cases hg) (fun c hc => by cases hc) Kc Q (fun W' hR' => hKc _ _ ?_)
        rw [hd]
        refine ih _ _ W' K h1 ?_ (hput _) hR' (fun a' W'' E' q1 q2 q3 q4 q5 => hQ a' W'' E' q1 (q2.trans (hdef _)) q3 q4 q5)
        intro x hx
        rcases List.mem_cons.1 hx with rfl | hx
        · exact ⟨by rw [hput]; exact hdn, put_get (by rw [hn]; exact hdn)⟩
        · exact drop_ok hE x hx
      · rename_i j b hg
        split at h
        · rename_i s hs
          split at h
          case isFalse => cases h
          rename_i hss
          obtain ⟨hsd, hsn⟩ := hss
          obtain ⟨v, h1, h2⟩ := v1_ok hM h hE hR
          by_cases hw : a.tmps.getD s undef = .bool b
          · rw [if_pos (by simp only [Region.wanted, hg]; exact (yielded_iff hs (by rw [hn]; exact hsn)).2 hw)]
            have hG := gs_ok hE hw
            refine h2 hG (fun c hc => by rw [← Option.some.inj hc]; exact cond_ok hE _ hG) Kc Q (fun W' hR' => hKc _ _ ?_)
            rw [hd]
            refine ih _ _ W' K h1 ?_ (hput _) hR' (fun a' W'' E' q1 q2 q3 q4 q5 => hQ a' W'' E' q1 (q2.trans (hdef _)) q3 q4 q5)
            intro x hx
            rcases List.mem_cons.1 hx with rfl | hx
            · refine ⟨by rw [hput]; exact hdn, fun _ => put_get (by rw [hn]; exact hdn), fun hne => ?_⟩
              rw [put_far hsd] at hne
              exact absurd hw hne
            · exact drop_ok hE x hx
          · rw [if_neg (by simp only [Region.wanted, hg]; exact fun e => hw ((yielded_iff hs (by rw [hn]; exact hsn)).1 e))]
            refine hKc _ _ ?_
            rw [hd]
            refine ih _ _ w K h1 ?_ (hput _) hR (fun a' W'' E' q1 q2 q3 q4 q5 => hQ a' W'' E' q1 (q2.trans (hdef _)) q3 q4 q5)
            intro x hx
            rcases List.mem_cons.1 hx with rfl | hx
            · refine ⟨by rw [hput]; exact hdn, fun he => ?_, fun _ => put_get (by rw [hn]; exact hdn)⟩
              rw [put_far hsd] at he
              exact absurd he hw
            · exact drop_ok hE x hx
        · cases h
def cwp {α : Type} (M : FuncId → List PV → Option PV) (D : FuncId → PV) (n : Nat) : Code → En → (Exit → En → Option α) → Option α
  | .region _ ops false, E, K => rwp M D n ops ops.toList E (K .normal)
  | .cond c x y, E, K => (match opnd E [] c with | some (.one (.bool b)) => (if b = true then cwp M D n x E K else cwp M D n y E K) | _ => none)
  | .seq x y, E, K => cwp M D n x E (fun e E' => match e with | .normal => cwp M D n y E' K | e => K e E')
  | .block id c, E, K => cwp M D n c E (fun e E' => match e with | .exit i => if i = id then K .normal E' else K (.exit i) E' | e => K e E')
  | .skip, E, K => K .normal E
  | .ret, E, K => K .ret E
  | .exit id, E, K => K (.exit id) E
  | _, _, _ => none
include hM in
theorem cwp_ok {n : Nat} : ∀ (c : Code) {Q : Exit → Act → World → Prop} (E : En) (a : Act) (w : World) (K : Exit → En → Option α), cwp M D n c E K = some z → okE a.tmps E → a.tmps.size = n → R w →
    (∀ (e : Exit) (a' : Act) (W' : World) (E' : En), a'.tmps.size = n → a'.defers = a.defers → okE a'.tmps E' → R W' → K e E' = some z → Q e a' W') → c.wp P Q a w := by
  intro c
  induction c with
  | region id ops draw =>
    intro Q E a w K h hE hn hR hQ
    cases draw with
    | true => unfold cwp at h; cases h
    | false =>
      unfold cwp at h
      exact wp_region_list (rwp_ok hM _ E a w _ h hE hn hR (fun a' W' E' h1 h2 h3 h4 h5 => hQ _ a' W' E' h1 h2 h3 h4 h5))
  | cond c x y ihx ihy =>
    intro Q E a w K h hE hn hR hQ
    unfold cwp at h
    split at h
    · rename_i b hb
      refine wp_cond_split (t := b) (opnd_ok hE (fun g hg => by cases hg) hb) (fun e => ?_) (fun e => ?_)
      · rw [if_pos e] at h; exact ihx E a w K h hE hn hR hQ
      · rw [if_neg (by rw [e]; decide)] at h; exact ihy E a w K h hE hn hR hQ
    · cases h
  | seq x y ihx ihy =>
    intro Q E a w K h hE hn hR hQ
    unfold cwp at h
    refine wp_seq (ihx E a w _ h hE hn hR (fun e a' W' E' h1 h2 h3 h4 h5 => ?_))
    cases e with
    | normal => exact ihy E' a' W' K h5 h3 h1 h4 (fun e2 a2 W2 E2 q1 q2 q3 q4 q5 => hQ e2 a2 W2 E2 q1 (q2.trans h2) q3 q4 q5)
    | _ => exact hQ _ a' W' E' h1 h2 h3 h4 h5
  | block id c ih =>
    intro Q E a w K h hE hn hR hQ
    unfold cwp at h
    refine wp_block (ih E a w _ h hE hn hR (fun e a' W' E' h1 h2 h3 h4 h5 => ?_))
    cases e with
    | exit i =>
      simp only [Exit.inBlock]
      simp only at h5
      split at h5
      · rename_i hi; rw [if_pos hi]; exact hQ _ a' W' E' h1 h2 h3 h4 h5
      · rename_i hi; rw [if_neg hi]; exact hQ _ a' W' E' h1 h2 h3 h4 h5
    | _ => exact hQ _ a' W' E' h1 h2 h3 h4 h5
  | skip => intro Q E a w K h hE hn hR hQ; exact wp_skip (hQ _ a w E hn rfl hE hR h)
  | ret => intro Q E a w K h hE hn hR hQ; exact wp_ret (hQ _ a w E hn rfl hE hR h)
  | exit id => intro Q E a w K h hE hn hR hQ; exact wp_exit (hQ _ a w E hn rfl hE hR h)
  | _ => intro Q E a w K h; first | (unfold cwp at h; cases h) | cases h
end ops
/-- A function's answer: the slots of its parameters, the slot of its result. -/
def fev (M : FuncId → List PV → Option PV) (D : FuncId → PV) (fn : Func) (args : List PS) (res : Nat) : Option PV := match fn.body with
  | some c => cwp M D (args.length + (fn.ntmps - args.length)) c ((List.range args.length).zipWith (fun i s => (i, none, .one s)) args) (fun e E => match e with | .ret => lookE E [] res | .normal => lookE E [] res | _ => none)
  | none => none
theorem fev_ok {P : Program} {M : FuncId → List PV → Option PV} {D : FuncId → PV} {R : World → Prop} (hM : ∀ f vs v W, M f vs = some v → R W → goesTo P f ∧ Calls P f (vs.map PV.val).toArray W (fun e W' => e = .returned v.val ∧ R W'))
    {f : FuncId} {fn : Func} (hf : P.funcs[f]? = some fn) (args : List PS) (res : Nat) {v : PV} {w : World} (hres : fn.results = #[.tmp res]) (h : fev M D fn args res = some v) (hR : R w) :
    Calls P f (args.map PS.val).toArray w fun e w' => e = .returned v.val ∧ R w' := by
  unfold fev at h
  split at h
  · rename_i c hb
    refine calls_of_wp hf hb ?_
    refine cwp_ok hM c _ _ w _ h ?_ (by simp) hR (fun e a' W' E' h1 h2 h3 h4 h5 => ?_)
    · intro x hx
      obtain ⟨i, hi, rfl⟩ := List.getElem_of_mem hx
      simp only [List.length_zipWith, List.length_range] at hi
      have hia : i < args.length := by omega
      simp only [List.getElem_zipWith, List.getElem_range]
      refine ⟨by simp; omega, ?_⟩
      simp only [Array.getD_eq_getD_getElem?, PV.val]
      rw [Array.getElem?_append_left (by simp; exact hia)]
      simp [hia]
    · have key : ∀ u, lookE E' [] res = some u → u = v → bodyPost P fn (fun e w' => e = .returned v.val ∧ R w') .ret a' W' := fun u hu huv => by
        subst huv
        refine ⟨h2, _, results_tmp hres _ _ _, ?_⟩
        rw [look_ok h3 (fun g hg => by cases hg) hu]
        exact ⟨rfl, h4⟩
      cases e with
      | ret => exact key _ h5 rfl
      | normal => exact key _ h5 rfl
      | _ => cases h5
  · cases h
end Go.Proofs.YtohaoaiffneamaaDoor.Ex
