import Derived.Test.YtobfnncpjkeloaaEv8
namespace Go.Proofs.Ytobfnncpjkeloaa.Ev
open Go Go.RowKit Go.Proofs.YtobfnncpjkeloaaW.PrintLast
/-! #### places in code: for the walk of a loop by itself -/
/-- The code at a place (false: the left one or the only one; true: the right one). -/
def codeAt : List Bool → Code → Code
  | [], c => c
  | d :: p, .seq x y => if d = true then codeAt p y else codeAt p x
  | d :: p, .cond _ x y => if d = true then codeAt p y else codeAt p x
  | _ :: p, .block _ c => codeAt p c
  | _ :: p, .loop c => codeAt p c
  | _ :: _, c => c
/-- What follows behind the code at a place (that is in no loop within). -/
def kontAt {α : Type} (P : Program) (L : Globs) (M : Orac) (D : FuncId → PV) (kp : Nat → Bool) (ks : List Nat) (nb base n fl : Nat) : List Bool → Code → (Exit → En → Heap → Option α) → Exit → En → Heap → Option α
  | [], _, K => K
  | d :: p, .seq x y, K => if d = true then kontAt P L M D kp ks nb base n fl p y K else kontAt P L M D kp ks nb base n fl p x (fun e E' H' => match e with | .normal => cwp P L M D kp ks nb base n fl y E' H' K | e => K e E' H')
  | d :: p, .cond _ x y, K => if d = true then kontAt P L M D kp ks nb base n fl p y K else kontAt P L M D kp ks nb base n fl p x K
  | _ :: p, .block id c, K => kontAt P L M D kp ks nb base n fl p c (fun e E' H' => match e with | .exit i => if i = id then K .normal E' H' else K (.exit i) E' H' | e => K e E' H')
  | _ :: _, _, K => K
/-- Behind a round. -/
def kRound {α : Type} (body : En → Heap → (Exit → En → Heap → Option α) → Option α) (K : Exit → En → Heap → Option α) (m : Nat) (E : En) (H : Heap) : Exit → En → Heap → Option α := fun e E' H' => match e with
  | .normal => rounds body K m (trimE E E') (trimH H H' (trimE E E'))
  | e => K e E' H'
/-- At a function's end. -/
def kEnd (P : Program) (base : Nat) (fn : Func) : Exit → En → Heap → Option (PV × Heap) := fun e E H => match e with
  | .ret => endF P base fn E H
  | .normal => endF P base fn E H
  | _ => none
def bodyOf (fn : Func) : Code := fn.body.getD .skip
def nOf (fn : Func) (k : Nat) : Nat := k + (fn.ntmps - k)
/-- A loop's body, of a function with k arguments; what follows behind the loop. Rows of ks may be appended to. -/
def bodyAtK {α : Type} (P : Program) (L : Globs) (M : Orac) (D : FuncId → PV) (ks : List Nat) (fn : Func) (k base fl : Nat) (p : List Bool) : En → Heap → (Exit → En → Heap → Option α) → Option α := fun E H K => cwp P L M D (liveF fn) ks (base + (nOf fn k + nOf fn k) + 1) base (nOf fn k) fl (codeAt (p ++ [false]) (bodyOf fn)) E H K
def kAtK (P : Program) (L : Globs) (M : Orac) (D : FuncId → PV) (ks : List Nat) (fn : Func) (k base fl : Nat) (p : List Bool) : Exit → En → Heap → Option (PV × Heap) := kontAt P L M D (liveF fn) ks (base + (nOf fn k + nOf fn k) + 1) base (nOf fn k) fl p (bodyOf fn) (kEnd P base fn)
abbrev bodyAt {α : Type} (P : Program) (L : Globs) (M : Orac) (D : FuncId → PV) (fn : Func) (k base fl : Nat) (p : List Bool) : En → Heap → (Exit → En → Heap → Option α) → Option α := bodyAtK P L M D [] fn k base fl p
abbrev kAt (P : Program) (L : Globs) (M : Orac) (D : FuncId → PV) (fn : Func) (k base fl : Nat) (p : List Bool) : Exit → En → Heap → Option (PV × Heap) := kAtK P L M D [] fn k base fl p
/-- One oracle for some functions, another for the rest. -/
def mixM (S : FuncId → Bool) (M N : Orac) : Orac := fun base f vs H => if S f = true then M base f vs H else N base f vs H
theorem mix_ok {P : Program} {L : Globs} {S : FuncId → Bool} {M N : Orac} (hM : Sound P L M) (hN : Sound P L N) : Sound P L (mixM S M N) := fun nb f vs H v H' h => by
  unfold mixM at h
  split at h
  · exact hM nb f vs H v H' h
  · exact hN nb f vs H v H' h
/-- An oracle that answers no more than a sound one. -/
theorem sub_ok {P : Program} {L : Globs} {M N : Orac} (hM : Sound P L M) (h : ∀ nb f vs H v H', N nb f vs H = some (true, v, H') → M nb f vs H = some (true, v, H')) : Sound P L N := fun nb f vs H v H' e => hM nb f vs H v H' (h _ _ _ _ _ _ e)
/-- One function's answers ahead of an oracle. -/
def addM (g : FuncId) (A : Nat → List PV → Heap → Option (Bool × PV × Heap)) (M : Orac) : Orac := fun nb f vs H => if f = g then A nb vs H else M nb f vs H
theorem add_ok {P : Program} {L : Globs} {D : FuncId → PV} {M N : Orac} {g : FuncId} {A : Nat → List PV → Heap → Option (Bool × PV × Heap)} (hM : Sound P L M) (hN : Sound P L N) (hm : P.follows .mixedOrders = true) (h : ∀ nb vs H v H', A nb vs H = some (true, v, H') → ∃ fl, callF P L D fl N nb g vs H = some (v, H')) : Sound P L (addM g A M) := by
  intro nb f vs H v H' e
  unfold addM at e
  split at e
  · rename_i hf
    subst hf
    obtain ⟨fl, h1⟩ := h nb vs H v H' e
    exact callF_ok hN hm fl nb f vs H v H' (by unfold upM; rw [h1]; rfl)
  · exact hM nb f vs H v H' e
/-- The same, where the table has no answer the oracle is asked. -/
def addN (g : FuncId) (A : Nat → List PV → Heap → Option (Bool × PV × Heap)) (M : Orac) : Orac := fun nb f vs H => if f = g then (match A nb vs H with | some r => some r | none => M nb f vs H) else M nb f vs H
theorem addN_ok {P : Program} {L : Globs} {M : Orac} {g : FuncId} {A : Nat → List PV → Heap → Option (Bool × PV × Heap)} (hM : Sound P L M) (hA : Sound P L (addM g A M)) : Sound P L (addN g A M) := by
  intro nb f vs H v H' e
  unfold addN at e
  split at e
  · rename_i hf
    split at e
    · rename_i r hr
      exact hA nb f vs H v H' (by unfold addM; rw [if_pos hf, hr]; exact e)
    · exact hM nb f vs H v H' e
  · exact hM nb f vs H v H' e
theorem wrap_id {n : Int} (h : -9223372036854775808 ≤ n) (h2 : n ≤ 9223372036854775807) : IntKind.wrap .i64 n = n := by
  unfold IntKind.wrap
  simp only [IntKind.signed, IntKind.bits] at *
  first
    | omega
    | (simp at *; omega)
end Go.Proofs.Ytobfnncpjkeloaa.Ev
