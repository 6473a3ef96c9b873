import Derived.Test.YtobfnncpjkeloaaEv9
import Derived.Test.YtobfnncpjkeloaaWWords
namespace Go.Proofs.Ytobfnncpjkeloaa.Ev
open Go Go.RowKit Go.Proofs.YtobfnncpjkeloaaW.PrintLast Go.Proofs.YtobfnncpjkeloaaW.PrintWords
/-! #### rows of a caller -/
/-- A row that a contract reads is a view. -/
theorem view_of_row {α : Type} {R : α → List Value → Prop} {size : Nat} {w : World} {A : Option Addr} {n cap : Nat} {ps : List α} (d : α) (enc : α → Nat → PS) {F : Nat → Prop} (hF : ∀ b, b < w.heap.size → F b) (hs : 0 < size) (hcap : n ≤ cap)
    (h : ReadsRow R size w A n ps) (henc : ∀ p c, p ∈ ps → R p c → c.length = size → ∀ j, j < size → ∃ u, c[j]? = some u ∧ RF w F (enc p j) u) : RF w F (.view n size (fun i j => enc (ps.getD i d) j)) (.slice A n cap) := by
  obtain ⟨h1, h2, h3⟩ := h
  by_cases h0 : 0 < n
  · obtain ⟨ad, rfl, h4⟩ := h3 h0
    have key : ∀ i j, i < n → j < size → ∃ u, w.cell? (ad.add (i * size + j)) = some u ∧ RF w F (enc (ps.getD i d) j) u := fun i j hi hj => by
      have hi' : i < ps.length := by omega
      obtain ⟨c, h5, h6, h7⟩ := h4 i _ (List.getElem?_eq_getElem hi')
      obtain ⟨u, h8, h9⟩ := henc _ c (List.getElem_mem hi') h6 h5 j hj
      have e : ps.getD i d = ps[i] := by simp [List.getD_eq_getElem?_getD, hi']
      exact ⟨u, h7 j u h8, by rw [e]; exact h9⟩
    obtain ⟨b, off, spot⟩ := ad
    have hsp : spot = none := by
      obtain ⟨u, h5, _⟩ := key 0 0 h0 hs
      rw [Nat.zero_mul] at h5
      cases spot with
      | none => rfl
      | some q =>
        have e0 : (⟨b, off, some q⟩ : Addr).add (0 + 0) = ⟨b, off, some q⟩ := rfl
        rw [e0] at h5
        unfold World.cell? at h5
        split at h5
        · simp at h5
        · cases h5
    subst hsp
    have hb : b < w.heap.size := by
      obtain ⟨u, h5, _⟩ := key 0 0 h0 hs
      rw [Addr.add_mid] at h5
      exact World.block_lt_of_cell? w _ h5
    have key2 : ∀ i j, i < n → j < size → w.cell? ⟨b, off + (i * size + j), none⟩ = some ((w.cell? ⟨b, off + (i * size + j), none⟩).getD undef) ∧ RF w F (enc (ps.getD i d) j) ((w.cell? ⟨b, off + (i * size + j), none⟩).getD undef) := fun i j hi hj => by
      obtain ⟨u, h5, h6⟩ := key i j hi hj
      rw [Addr.add_mid] at h5
      rw [h5]; exact ⟨rfl, h6⟩
    exact RF.view n size _ b off cap (fun i j => (w.cell? ⟨b, off + (i * size + j), none⟩).getD undef) h0 hcap (hF b hb) (fun i j hi hj => (key2 i j hi hj).1) (fun i j hi hj => (key2 i j hi hj).2)
  · obtain rfl : n = 0 := by omega
    exact RF.view0 _ _ _ _
/-- The start of a call from outside: nothing is owned, all that is there is only read. -/
theorem start_ok (w : World) : Inv 0 w (fun b => b < w.heap.size) (fun _ => none) [] := ⟨(fun _ _ _ hm => nomatch hm), (fun _ _ hm => nomatch hm), (fun _ _ _ h => nomatch h), (fun _ _ _ _ _ h => nomatch h), fun _ h => h, (fun _ _ _ h => nomatch h)⟩
/-- What a sound oracle answers of a function that is called from outside with plain arguments, and answers with a plain value. -/
theorem calls_of {P : Program} {L : Globs} {M : Orac} (hM : Sound P L M) {f : FuncId} {vs : List PV} {v : PV} {u0 : Value} (h : M 0 f vs [] = some (true, v, [])) (hv : plainV v = some u0) {w : World} {us : List Value} (hL : okG w (fun b => b < w.heap.size) L) (hus : All2 (RN 0 w (fun b => b < w.heap.size) (fun _ => none)) vs us) :
    Calls P f us.toArray w (fun e w' => e = .returned u0 ∧ Below w.heap.size w w') := by
  refine (hM 0 f vs [] v [] h w _ _ us hL (start_ok w) hus).2.mono ?_
  rintro e w' ⟨u, F', β', rfl, h5, _, h7⟩
  exact ⟨by rw [plainV_ok hv h5], ⟨h7.step.os, h7.step.tape, h7.step.output, h7.step.size, fun b hb => h7.frame b hb (fun _ _ _ hm => nomatch hm)⟩⟩
end Go.Proofs.Ytobfnncpjkeloaa.Ev
