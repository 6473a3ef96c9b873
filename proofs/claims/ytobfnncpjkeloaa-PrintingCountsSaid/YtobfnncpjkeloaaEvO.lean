import Derived.Test.YtobfnncpjkeloaaWLast
import Derived.Deep.Quiet
import Derived.Below
import Derived.Laws.StructEq
namespace Go.Proofs.Ytobfnncpjkeloaa.Ev
open Go Go.RowKit Go.Proofs.YtobfnncpjkeloaaW.PrintLast
/-! #### regions that draw their order: quiet operations may be taken first, those that change memory come last, one by one -/
section orders
variable {P : Program} {ops : Array Oper} {Q : Exit → Act → World → Prop} {w0 : World} {ds bs : List Nat} {S1 : World → Prop} {S : Nat → World → Prop} {kp : Nat → Nat → Bool}
abbrev Cl0 (w w' : World) : Prop := Below w.heap.size w w'
theorem Cl0.rfl {w : World} : Cl0 w w := ⟨_root_.rfl, _root_.rfl, _root_.rfl, Nat.le_refl _, fun _ _ => _root_.rfl⟩
theorem Cl0.trans {w w' w'' : World} (h : Cl0 w w') (h' : Cl0 w' w'') : Cl0 w w'' := ⟨h'.os.trans h.os, h'.tape.trans h.tape, h'.output.trans h.output, Nat.le_trans h.size h'.size, fun b hb => (h'.block b (Nat.lt_of_lt_of_le hb h.size)).trans (h.block b hb)⟩
/-- In every world of S1 the operation yields v, and leaves a world behind the one that it got. -/
def YT (P : Program) (ops : Array Oper) (S1 : World → Prop) (o : Oper) (v : Value) (a : Act) : Prop :=
  (Region.wanted o (yielded ops a.tmps) = true ∧ ∀ w, S1 w → o.quietAt P a (Cl0 w) w v) ∨ (Region.wanted o (yielded ops a.tmps) = false ∧ v = undef)
theorem YT.of_same {o : Oper} {v : Value} {a a' : Act} (hy : YT P ops S1 o v a) (he : execOp a'.eval o = execOp a.eval o)
    (hw : Region.wanted o (yielded ops a'.tmps) = Region.wanted o (yielded ops a.tmps)) : YT P ops S1 o v a' := by
  unfold YT Oper.quietAt at *
  rw [he, hw]
  exact hy
def tOp (P : Program) (ops : Array Oper) (Q : Exit → Act → World → Prop) (i : Nat) (K : Act → World → Prop) (a : Act) (w : World) : Prop :=
  match ops[i]? with
  | none => False
  | some o => if Region.wanted o (yielded ops a.tmps) = true then o.wp P a w K Q else K (a.put o.dst undef) w
theorem tOp_mono {i : Nat} {a : Act} {w : World} {K K' : Act → World → Prop} (h : ∀ a w, K a w → K' a w) (hh : tOp P ops Q i K a w) : tOp P ops Q i K' a w := by
  unfold tOp at *
  split
  · rename_i ho; simp only [ho] at hh
  · rename_i o ho
    simp only [ho] at hh
    split
    · rename_i hw; simp only [hw, if_true] at hh; exact Oper.wp_mono h hh
    · rename_i hw; simp only [hw] at hh; exact h _ _ hh
theorem tOp_wpOp {i : Nat} {a : Act} {w : World} {K : Act → World → Prop} (hh : tOp P ops Q i K a w) : wpOp P ops Q i K a w := by
  unfold tOp at hh
  unfold wpOp
  split
  · rename_i ho; simp only [ho] at hh
  · rename_i o ho
    simp only [ho] at hh
    split
    · rename_i hw; simp only [hw, if_true] at hh; exact .inl hh
    · rename_i hw; simp only [hw] at hh; exact hh
theorem YT.tOp {i : Nat} {o : Oper} {v : Value} {a : Act} {w : World} (hi : ops[i]? = some o) (hy : YT P ops S1 o v a) (hS : S1 w) {K : Act → World → Prop} (h : ∀ w', Cl0 w w' → K (a.put o.dst v) w') : tOp P ops Q i K a w := by
  unfold Ev.tOp
  simp only [hi]
  rcases hy with ⟨hw, hv⟩ | ⟨hw, rfl⟩
  · rw [if_pos hw]
    have h3 := hv w hS
    unfold Oper.quietAt at h3
    unfold Oper.wp
    generalize (execOp a.eval o).run P w = r at *
    cases r with
    | ok n w' =>
      cases n <;> simp only [Oper.quietUpon] at h3 <;> simp only [Oper.upon]
      case value u =>
        obtain ⟨e1, e2⟩ := h3
        rw [e1, e2]
        exact h _ Cl0.rfl
      case skip =>
        obtain ⟨e1, e2⟩ := h3
        rw [e1, ← e2]
        exact h _ Cl0.rfl
      case enter f args =>
        obtain ⟨e1, hc⟩ := h3
        rw [e1]
        exact hc.mono fun e w'' ⟨he, hw''⟩ => by subst he; exact h _ hw''
    | halt x w' => simp only [Oper.quietUpon] at h3
  · rw [if_neg (by rw [hw]; decide)]
    exact h _ Cl0.rfl
theorem tOp_put {j : Nat} {oi oj : Oper} {v : Value} (hj : ops[j]? = some oj) (hap : oi.apart ops oj = true)
    (hsi : ∀ cs b, oi.op ≠ .select cs b) (hsj : ∀ cs b, oj.op ≠ .select cs b) (hQ : ∀ c a w, ¬ Q (.panic c) a w) {K : Act → World → Prop} {a : Act} {w : World}
    (hy : YT P ops S1 oi v a) (h : tOp P ops Q j K (a.put oi.dst v) w) : tOp P ops Q j (fun a' w' => YT P ops S1 oi v a' ∧ K (a'.put oi.dst v) w') a w := by
  obtain ⟨h1, h2, h3⟩ := Oper.apart_spec hap
  have keep : ∀ (a : Act), YT P ops S1 oi v a → ∀ u, YT P ops S1 oi v (a.put oj.dst u) := fun a hy u => hy.of_same (execOp_put oi hsi a oj.dst u h3) (wanted_put oi a oj.dst u h3)
  unfold tOp at *
  simp only [hj] at *
  rw [wanted_put oj a oi.dst v h1] at h
  by_cases hw : Region.wanted oj (yielded ops a.tmps) = true
  · rw [if_pos hw] at h ⊢
    unfold Oper.wp at *
    rw [execOp_put oj hsj a oi.dst v h1] at h
    generalize (execOp a.eval oj).run P w = r at *
    have turn : ∀ (a : Act), YT P ops S1 oi v a → ∀ (u : Value) (w' : World), K ((a.put oi.dst v).put oj.dst u) w' → YT P ops S1 oi v (a.put oj.dst u) ∧ K ((a.put oj.dst u).put oi.dst v) w' := fun a hy u w' hk => ⟨keep a hy u, by rw [← Act.put_comm a v u h2]; exact hk⟩
    cases r with
    | ok n w' =>
      cases n with
      | value u => exact turn a hy u w' h
      | skip => exact turn a hy undef w' h
      | defer d =>
        refine turn { a with defers := d :: a.defers } (hy.of_same rfl rfl) undef w' ?_
        rw [← Act.put_defers]
        exact h
      | enter f args =>
        refine Calls.mono h fun e w'' he => ?_
        cases e with
        | returned u => exact turn a hy u w'' he
        | panicked c => exact absurd he (hQ _ _ _)
        | outgrown => exact he
      | row row args => exact Rows.mono h fun u w'' he => turn a hy u w'' he
      | _ => exact h
    | halt x w' =>
      cases x <;> first | exact absurd h (hQ _ _ _) | exact h
  · rw [if_neg hw] at h ⊢
    exact ⟨keep a hy _, by rw [← Act.put_comm a v undef h2]; exact h⟩
/-- Whatever order is picked from here on; quiet calls may have made memory in between. S k: the worlds in which the operation k may be taken; kp i k: the operation i leaves these. -/
def wpT (P : Program) (ops : Array Oper) (Q : Exit → Act → World → Prop) (S : Nat → World → Prop) (kp : Nat → Nat → Bool) : Nat → Array Bool → Act → World → Prop
  | 0, listed, a, w => ∀ w', Cl0 w w' → Region.ready .any ops listed = [] ∧ Q .normal a w'
  | fuel + 1, listed, a, w => ∀ w', Cl0 w w' → (Region.ready .any ops listed = [] → Q .normal a w') ∧
    ∀ i ∈ Region.ready .any ops listed, tOp P ops Q i (fun a' w'' => (∀ k, kp i k = true → S k w' → S k w'') ∧ wpT P ops Q S kp fuel (listed.setIfInBounds i true) a' w'') a w'
theorem wpT_any : ∀ (fuel : Nat) (listed : Array Bool) (a : Act) (w : World), wpT P ops Q S kp fuel listed a w → wpAny P .any ops Q fuel listed a w
  | 0, _, _, _, h => h _ Cl0.rfl
  | fuel + 1, _, _, _, h => ⟨(h _ Cl0.rfl).1, fun i hi => tOp_wpOp (tOp_mono (fun a' w' h' => wpT_any fuel _ a' w' h'.2) ((h _ Cl0.rfl).2 i hi))⟩
theorem wpT_later : ∀ {fuel : Nat} {listed : Array Bool} {a : Act} {w w' : World}, wpT P ops Q S kp fuel listed a w → Cl0 w w' → wpT P ops Q S kp fuel listed a w'
  | 0, _, _, _, _, h, hw => fun w2 h2 => h w2 (hw.trans h2)
  | _ + 1, _, _, _, _, h, hw => fun w2 h2 => h w2 (hw.trans h2)
theorem wpT_first (hS : ∀ k w w', S k w → Cl0 w w' → S k w') {i : Nat} {oi : Oper} {v : Value} (hi : ops[i]? = some oi) (hsel : Region.noSelect ops = true) (hQ : ∀ c a w, ¬ Q (.panic c) a w) :
    ∀ (fuel : Nat) (listed : Array Bool) (a : Act) (w : World),
      (∀ j oj, ops[j]? = some oj → j ≠ i → listed.getD j true = false → (∀ e ∈ oj.after, Region.binds .any e = true → e.on ≠ i) → oi.apart ops oj = true) →
      ListedClosed .any ops listed → (∀ d, listed.getD d true = false → kp d i = true ∨ Region.reachB .any ops i ops.size d = true) →
      i ∈ Region.ready .any ops listed → YT P ops (S i) oi v a → S i w →
      wpT P ops Q S kp fuel (listed.setIfInBounds i true) (a.put oi.dst v) w → wpT P ops Q S kp (fuel + 1) listed a w := by
  intro fuel
  induction fuel with
  | zero =>
    intro listed a w _ _ _ hr hy hSw H w' hw
    refine ⟨fun h => (by rw [h] at hr; cases hr), fun j hj => ?_⟩
    by_cases hji : j = i
    · subst hji; exact hy.tOp hi (hS _ _ _ hSw hw) (fun w2 h2 => ⟨fun k _ h => hS k _ _ h h2, wpT_later H (hw.trans h2)⟩)
    · have := ready_mono hj hji
      rw [(H _ Cl0.rfl).1] at this
      cases this
  | succ fuel ih =>
    intro listed a w hfree hc hd hr hy hSw H w' hw
    refine ⟨fun h => (by rw [h] at hr; cases hr), fun j hj => ?_⟩
    by_cases hji : j = i
    · subst hji; exact hy.tOp hi (hS _ _ _ hSw hw) (fun w2 h2 => ⟨fun k _ h => hS k _ _ h h2, wpT_later H (hw.trans h2)⟩)
    · have h1 := (H w' hw).2 j (ready_mono hj hji)
      obtain ⟨hjun, oj, hoj, hall⟩ := mem_ready.1 hj
      have hiun := (mem_ready.1 hr).1
      have hnot : ∀ e ∈ oj.after, Region.binds .any e = true → e.on ≠ i := fun e he hb heq => by
        have h1 := hall e he hb
        rw [heq] at h1
        rcases Nat.lt_or_ge i listed.size with h' | h'
        · simp [h'] at hiun h1; rw [hiun] at h1; cases h1
        · simp [Array.getElem?_eq_none h'] at h1
      have h2 := tOp_put hoj (hfree j oj hoj hji hjun hnot) (fun cs b => Region.noSelect_spec hsel i oi cs b hi) (fun cs b => Region.noSelect_spec hsel j oj cs b hoj) hQ hy h1
      have hfree' : ∀ k ok, ops[k]? = some ok → k ≠ i → (listed.setIfInBounds j true).getD k true = false →
          (∀ e ∈ ok.after, Region.binds .any e = true → e.on ≠ i) → oi.apart ops ok = true := fun k ok hk hki hun hno => by
        refine hfree k ok hk hki ?_ hno
        by_cases hjk : j = k
        · subst hjk; exact hjun
        · rw [getD_set_ne true hjk] at hun; exact hun
      have hd' : ∀ d, (listed.setIfInBounds j true).getD d true = false → kp d i = true ∨ Region.reachB .any ops i ops.size d = true := fun d hun => by
        refine hd d ?_
        by_cases hjk : j = d
        · subst hjk; exact hjun
        · rw [getD_set_ne true hjk] at hun; exact hun
      refine tOp_mono (fun a' w2 h3 => ⟨h3.2.1, ih (listed.setIfInBounds j true) a' w2 hfree' (hc.set hj) hd' (ready_mono hr (Ne.symm hji)) h3.1 ?_ ?_⟩) h2
      · rcases hd j hjun with hk | hk
        · exact h3.2.1 i hk (hS _ _ _ hSw hw)
        · exact absurd hj (fun hj => Region.reach_not_ready hc hk hiun hj)
      · rw [Array.setIfInBounds_comm _ _ hji]
        exact h3.2.2
/-! The walk: the quiet ones in lexical order, then the rest one by one. -/
/-- Does the operation d leave what k reads? Those of ds are the only ones that may change memory; those of bs are shown to read nothing of what is changed by what does not wait for them. -/
def kpD (ops : Array Oper) (ds bs : List Nat) (d k : Nat) : Bool := !ds.contains d || (bs.contains k && !Region.reachB .any ops k ops.size d)
def quietB (ops : Array Oper) (ds bs : List Nat) : List Nat → Array Bool → Bool
  | [], _ => true
  | k :: r, l => (Region.ready .any ops l).contains k && (Region.free .any ops l k && (Region.closedB .any ops l && ((bs.contains k || Region.lastB .any ops l ds k) && quietB ops ds bs r (l.setIfInBounds k true))))
def listN : List Nat → Array Bool → Array Bool
  | [], l => l
  | k :: r, l => listN r (l.setIfInBounds k true)
def chainB (ops : Array Oper) : List Nat → Array Bool → Bool
  | [], l => Region.ready .any ops l == []
  | k :: r, l => Region.ready .any ops l == [k] && chainB ops r (l.setIfInBounds k true)
/-- The quiet walk. -/
def wpQT (P : Program) (ops : Array Oper) (S : Nat → World → Prop) (R : Act → Prop) : List (Nat × Oper) → Act → Prop
  | [], a => R a
  | (k, o) :: r, a => ∃ v, YT P ops (S k) o v a ∧ wpQT P ops S R r (a.put o.dst v)
/-- The rest. -/
def wpCT (P : Program) (ops : Array Oper) (Q : Exit → Act → World → Prop) (S : Nat → World → Prop) (kp : Nat → Nat → Bool) : List (Nat × Oper) → Act → World → Prop
  | [], a, w => ∀ w', Cl0 w w' → Q .normal a w'
  | (k, o) :: r, a, w => ∀ w', Cl0 w w' → if Region.wanted o (yielded ops a.tmps) = true then o.wp P a w' (fun a' w'' => (∀ i, kp k i = true → S i w' → S i w'') ∧ wpCT P ops Q S kp r a' w'') Q else wpCT P ops Q S kp r (a.put o.dst undef) w'
theorem wpT_chain : ∀ (r : List (Nat × Oper)) (l : Array Bool) (a : Act) (w : World), (∀ p ∈ r, ops[p.1]? = some p.2) → chainB ops (r.map (·.1)) l = true → wpCT P ops Q S kp r a w → wpT P ops Q S kp r.length l a w
  | [], l, a, w, _, hB, h => fun w' hw => ⟨by simpa [chainB] using hB, h w' hw⟩
  | (k, o) :: r, l, a, w, hl, hB, h => by
    have h0 : ops[k]? = some o := hl _ (List.mem_cons_self ..)
    simp only [List.map_cons, chainB, Bool.and_eq_true, beq_iff_eq] at hB
    intro w' hw
    refine ⟨fun e => (by rw [hB.1] at e; cases e), fun i hi => ?_⟩
    rw [hB.1] at hi
    obtain rfl : i = k := by simpa using hi
    have h1 := h w' hw
    have ih := fun a2 w2 h3 => wpT_chain r (l.setIfInBounds i true) a2 w2 (fun p hp => hl p (List.mem_cons_of_mem _ hp)) hB.2 h3
    unfold tOp
    simp only [h0]
    split
    · rename_i hw2
      rw [if_pos hw2] at h1
      exact Oper.wp_mono (fun a2 w2 h3 => ⟨h3.1, ih a2 w2 h3.2⟩) h1
    · rename_i hw2
      rw [if_neg hw2] at h1
      exact ⟨fun _ _ h => h, ih _ _ h1⟩
theorem wpT_walk {R : Act → Prop} {m : Nat} (hS : ∀ k w w', S k w → Cl0 w w' → S k w') (hS0 : ∀ k, S k w0) (hsel : Region.noSelect ops = true) (hQ : ∀ c a w, ¬ Q (.panic c) a w) : ∀ (q : List (Nat × Oper)) (l : Array Bool) (a : Act), (∀ p ∈ q, ops[p.1]? = some p.2) → quietB ops ds bs (q.map (·.1)) l = true → (∀ a', R a' → wpT P ops Q S (kpD ops ds bs) m (listN (q.map (·.1)) l) a' w0) →
    wpQT P ops S R q a → wpT P ops Q S (kpD ops ds bs) (q.length + m) l a w0
  | [], l, a, _, _, hR, h => by
    have := hR a h
    simpa [listN] using this
  | (k, o) :: q, l, a, hl, hB, hR, h => by
    have h0 : ops[k]? = some o := hl (k, o) (by simp)
    simp only [List.map_cons, quietB, Bool.and_eq_true] at hB
    obtain ⟨h1, h2, h3, h5, h6⟩ := hB
    obtain ⟨v, hy, hk⟩ := h
    have hlen : ((k, o) :: q).length + m = (q.length + m) + 1 := by simp; omega
    rw [hlen]
    refine wpT_first hS h0 hsel hQ _ l a w0 (Region.free_spec h0 h2) (Region.closedB_spec h3) (fun d hun => ?_) (by simpa using h1) hy (hS0 k) ?_
    · unfold kpD
      cases hds : ds.contains d with
      | false => exact .inl (by simp)
      | true =>
        cases hb : bs.contains k with
        | true => cases hr : Region.reachB .any ops k ops.size d with
          | true => exact .inr rfl
          | false => exact .inl (by simp)
        | false =>
          rw [hb, Bool.false_or] at h5
          have := List.all_eq_true.1 h5 d (by simpa using hds)
          rw [hun] at this
          exact .inr (by simpa using this)
    · exact wpT_walk hS hS0 hsel hQ q _ _ (fun p hp => hl p (List.mem_cons_of_mem _ hp)) h6 hR hk
/-! Operations that may be taken in any order among each other: new variables. -/
def groupB (ops : Array Oper) (fin : Array Bool) : Nat → List Nat → Array Bool → Bool
  | 0, as, l => as.isEmpty && l.toList == fin.toList
  | n + 1, as, l => !(Region.ready .any ops l).isEmpty && (Region.ready .any ops l).all fun i => as.contains i && groupB ops fin n (as.filter (· != i)) (l.setIfInBounds i true)
theorem wpT_group {J : List Nat → Act → World → Prop} {fuel : Nat} {fin : Array Bool} (hstep : ∀ as i a w, i ∈ as → J as a w → ∀ w', Cl0 w w' → tOp P ops Q i (fun a' w'' => (∀ k, kp i k = true → S k w' → S k w'') ∧ J (as.filter (· != i)) a' w'') a w') (hend : ∀ a w, J [] a w → wpT P ops Q S kp fuel fin a w) :
    ∀ (n : Nat) (as : List Nat) (l : Array Bool) (a : Act) (w : World), groupB ops fin n as l = true → J as a w → wpT P ops Q S kp (n + fuel) l a w
  | 0, as, l, a, w, hB, hJ => by
    simp only [groupB, Bool.and_eq_true, List.isEmpty_iff, beq_iff_eq, Array.toList_inj] at hB
    obtain ⟨rfl, rfl⟩ := hB
    rw [Nat.zero_add]
    exact hend a w hJ
  | n + 1, as, l, a, w, hB, hJ => by
    simp only [groupB, Bool.and_eq_true, List.all_eq_true, Bool.not_eq_true'] at hB
    rw [show n + 1 + fuel = (n + fuel) + 1 by omega]
    intro w' hw
    refine ⟨fun e => ?_, fun i hi => ?_⟩
    · rw [e] at hB; exact absurd hB.1 (by decide)
    · obtain ⟨h1, h2⟩ := hB.2 i hi
      exact tOp_mono (fun a' w'' h => ⟨h.1, wpT_group hstep hend n _ _ a' w'' h2 h.2⟩) (hstep as i a w (by simpa using h1) hJ w' hw)
/-- The operations of some numbers. -/
def pairsOf (ops : Array Oper) (ks : List Nat) : List (Nat × Oper) := ks.filterMap fun k => (ops[k]?).map fun o => (k, o)
def drawB (ops : Array Oper) (ds bs qs as cs : List Nat) : Bool := Region.noSelect ops && (((pairsOf ops qs).map (·.1) == qs && (pairsOf ops cs).map (·.1) == cs) && ((pairsOf ops qs).length + (as.length + (pairsOf ops cs).length) == ops.size && (quietB ops ds bs qs (Array.replicate ops.size false) && (groupB ops (listN as (listN qs (Array.replicate ops.size false))) as.length as (listN qs (Array.replicate ops.size false)) && chainB ops cs (listN as (listN qs (Array.replicate ops.size false)))))))
theorem pairs_mem {ks : List Nat} {p : Nat × Oper} (h : p ∈ pairsOf ops ks) : ops[p.1]? = some p.2 := by
  obtain ⟨k, _, h2⟩ := List.mem_filterMap.1 h
  obtain ⟨o, h3, rfl⟩ := Option.map_eq_some_iff.1 h2
  exact h3
theorem wpT_late {qs as cs : List Nat} {J : List Nat → Act → World → Prop} {a : Act} {w : World} (hB : drawB ops ds bs qs as cs = true) (hstep : ∀ as i a w, i ∈ as → J as a w → ∀ w', Cl0 w w' → tOp P ops Q i (fun a' w'' => (∀ k, kp i k = true → S k w' → S k w'') ∧ J (as.filter (· != i)) a' w'') a w')
    (hend : ∀ a w, J [] a w → wpCT P ops Q S kp (pairsOf ops cs) a w) (hJ : J as a w) : wpT P ops Q S kp (as.length + (pairsOf ops cs).length) (listN qs (Array.replicate ops.size false)) a w := by
  simp only [drawB, Bool.and_eq_true, beq_iff_eq] at hB
  obtain ⟨_, ⟨_, h3⟩, _, _, h6, h7⟩ := hB
  exact wpT_group hstep (fun a w h => wpT_chain _ _ a w (fun p hp => pairs_mem hp) (by rw [h3]; exact h7) (hend a w h)) _ as _ a w h6 hJ
theorem wp_region_draws {id : Nat} {qs as cs : List Nat} {a : Act} {w : World} (hm : P.follows .mixedOrders = true) (hS : ∀ k w w', S k w → Cl0 w w' → S k w') (hS0 : ∀ k, S k { w with drawn := w.drawn + 1 }) (hB : drawB ops ds bs qs as cs = true)
    (h : wpQT P ops S (fun a' => wpT P ops (NoPanic Q) S (kpD ops ds bs) (as.length + (pairsOf ops cs).length) (listN qs (Array.replicate ops.size false)) a' { w with drawn := w.drawn + 1 }) (pairsOf ops qs) a) : (Code.region id ops true).wp P Q a w := by
  simp only [drawB, Bool.and_eq_true, beq_iff_eq] at hB
  obtain ⟨h1, ⟨h2, h3⟩, h4, h5, h6⟩ := hB
  refine wp_region_noPanic (wp_region_any hm (wpT_any (S := S) (kp := kpD ops ds bs) _ _ _ _ ?_))
  have := wpT_walk (P := P) (Q := NoPanic Q) (ds := ds) (bs := bs) (w0 := { w with drawn := w.drawn + 1 }) hS hS0 h1 (fun c a w h => h) (pairsOf ops qs) (Array.replicate ops.size false) a (fun p hp => pairs_mem hp) (by rw [h2]; exact h5) (fun a' h => by rw [h2]; exact h) h
  rwa [h4] at this
end orders
end Go.Proofs.Ytobfnncpjkeloaa.Ev
