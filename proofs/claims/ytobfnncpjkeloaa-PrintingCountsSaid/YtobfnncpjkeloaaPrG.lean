import Derived.Test.YtobfnncpjkeloaaPrE
namespace Go.Proofs.Ytobfnncpjkeloaa.Sh
open Go Go.RowKit Go.Proofs.Ytobfnncpjkeloaa.Ev Go.Proofs.Try
set_option maxRecDepth 1000000
set_option linter.unusedVariables false
theorem srt_perm {A B : List Int} (h : A.Perm B) : q_srt A = q_srt B := by
  unfold q_srt
  refine List.Perm.eq_of_pairwise (le := fun a b => decide (a ≤ b) = true) (fun a b _ _ h1 h2 => by simp at h1 h2; omega) (List.pairwise_mergeSort (by intro a b c; simp; omega) (by intro a b; simp; omega) A) (List.pairwise_mergeSort (by intro a b c; simp; omega) (by intro a b; simp; omega) B) ?_
  exact ((List.mergeSort_perm A _).trans h).trans (List.mergeSort_perm B _).symm
theorem flat_perm {α : Type} (l : List Nat) (f g : Nat → List α) (h : ∀ a, a ∈ l → (f a).Perm (g a)) : (l.flatMap f).Perm (l.flatMap g) := by
  induction l with
  | nil => exact .refl _
  | cons a l ih =>
    rw [List.flatMap_cons, List.flatMap_cons]
    exact (h a (by simp)).append (ih (fun b hb => h b (by simp [hb])))
theorem flat_app {α : Type} (l : List Nat) (f g : Nat → List α) : (l.flatMap fun a => f a ++ g a).Perm (l.flatMap f ++ l.flatMap g) := by
  induction l with
  | nil => exact .refl _
  | cons a l ih =>
    rw [List.flatMap_cons, List.flatMap_cons, List.flatMap_cons]
    have h1 : (f a ++ g a ++ l.flatMap fun a => f a ++ g a).Perm (f a ++ g a ++ (l.flatMap f ++ l.flatMap g)) := ih.append_left _
    refine h1.trans ?_
    rw [List.append_assoc, List.append_assoc]
    refine List.Perm.append_left _ ?_
    rw [← List.append_assoc, ← List.append_assoc]
    exact List.perm_append_comm.append_right _
theorem flat_range {α : Type} (q : Nat) (v : Nat → α) : ∀ M, ((List.range M).flatMap fun s => (List.range q).map fun j => v (s * q + j)) = (List.range (M * q)).map v := by
  intro M
  induction M with
  | zero => simp
  | succ M ih => rw [List.range_succ, List.flatMap_append, ih, Nat.succ_mul, List.range_add, List.map_append, List.flatMap_cons, List.flatMap_nil, List.append_nil, List.map_map]; rfl
theorem inv_perm : ∀ r, r < 5 → ∀ c, c < 5 → ∀ dn, ((List.range (r * c)).map (q_inv r c dn)).Perm (List.range (r * c)) := by decide
theorem pos_flat (l : List Nat) (f : Nat → List Int) : (l.flatMap fun a => pos (f a)) = pos (l.flatMap f) := by
  induction l with
  | nil => rfl
  | cons a l ih => rw [List.flatMap_cons, List.flatMap_cons, ih]; unfold pos; rw [List.filter_append]
theorem pos_perm {A B : List Int} (h : A.Perm B) : (pos A).Perm (pos B) := h.filter _
/-- What the sides bear is what was ordered. -/
theorem all_perm (X : List Int) (hX : ∀ x, x ∈ X → x > 0) (r c : Nat) (hr : 1 ≤ r ∧ r < 5) (hc : 1 ≤ c ∧ c < 5) (dn : Bool) : ((List.range (q_ns X.length (r * c))).flatMap fun s => pos (q_side X r c dn s)).Perm X := by
  obtain ⟨h0, h16⟩ := rc16 hr hc
  rw [pos_flat]
  have e1 : ∀ s, (q_side X r c dn s).Perm ((List.range (r * c)).map fun j => (fun k => X.getD k 0) (s * (r * c) + j)) := fun s => by
    have h := (inv_perm r hr.2 c hc.2 dn).map (fun j => X.getD (s * (r * c) + j) 0)
    rw [List.map_map] at h
    refine List.Perm.trans (List.Perm.of_eq ?_) h
    unfold q_side
    apply List.map_congr_left
    intro p _
    unfold q_cell
    simp only [Function.comp]
    split
    · rfl
    · rename_i h; rw [List.getD_eq_getElem?_getD, List.getElem?_eq_none (by omega)]; rfl
  refine (pos_perm (flat_perm _ _ _ (fun s _ => e1 s))).trans ?_
  rw [flat_range (r * c) (fun k => X.getD k 0)]
  have hn : X.length ≤ q_ns X.length (r * c) * (r * c) := by
    rcases Nat.eq_zero_or_pos X.length with h | h
    · omega
    · rw [ns_pos h0 h]
      have := Nat.div_add_mod (X.length - 1) (r * c)
      have := Nat.mod_lt (X.length - 1) h0
      rw [Nat.add_mul, Nat.mul_comm ((X.length - 1) / (r * c))]
      omega
  obtain ⟨d, hd⟩ : ∃ d, q_ns X.length (r * c) * (r * c) = X.length + d := ⟨_, (Nat.add_sub_cancel' hn).symm⟩
  rw [hd, List.range_add, List.map_append]
  have e2 : (List.range X.length).map (fun k => X.getD k 0) = X := by
    apply List.ext_getElem?
    intro i
    by_cases hi : i < X.length
    · simp [hi]
    · rw [List.getElem?_eq_none (by simp; omega), List.getElem?_eq_none (by omega)]
  rw [e2]
  unfold pos
  rw [List.filter_append]
  have e3 : X.filter (fun x => decide (x > 0)) = X := List.filter_eq_self.2 (fun x hx => by simpa using hX x hx)
  have e4 : ((List.map (fun x => X.length + x) (List.range d)).map fun k => X.getD k 0).filter (fun x => decide (x > 0)) = [] := by
    rw [List.filter_eq_nil_iff]
    intro x hx
    obtain ⟨k, hk, rfl⟩ := List.mem_map.1 hx
    obtain ⟨j, _, rfl⟩ := List.mem_map.1 hk
    rw [List.getD_eq_getElem?_getD, List.getElem?_eq_none (by omega)]
    simp
  rw [e3, e4, List.append_nil]
/-- So many times. -/
def q_rep (l : List Int) : Nat → List Int
  | 0 => []
  | c + 1 => q_rep l c ++ l
theorem rep_len (l : List Int) : ∀ c, (q_rep l c).length = l.length * c
  | 0 => rfl
  | c + 1 => by show (q_rep l c ++ l).length = _; rw [List.length_append, rep_len l c, Nat.mul_succ]
theorem rep_mem {l : List Int} {x : Int} : ∀ {c}, x ∈ q_rep l c → x ∈ l
  | 0, h => nomatch h
  | c + 1, h => (List.mem_append.1 h).elim rep_mem id
theorem map_getD (l : List Int) : (List.range l.length).map (fun i => l.getD i 0) = l := by
  apply List.ext_getElem?
  intro i
  by_cases hi : i < l.length
  · simp [hi]
  · rw [List.getElem?_eq_none (by simp; omega), List.getElem?_eq_none (by omega)]
theorem at_perm (N : Nat) (back : Bool) : ((List.range N).map (q_at N back)).Perm (List.range N) := by
  cases back
  · have : q_at N false = id := by funext k; rfl
    rw [this, List.map_id]
  · have : (List.range N).map (q_at N true) = (List.range N).reverse := by
      apply List.ext_getElem?
      intro i
      by_cases hi : i < N
      · rw [List.getElem?_map, List.getElem?_range hi, List.getElem?_reverse (by simpa using hi), List.length_range, List.getElem?_range (by omega)]
        rfl
      · rw [List.getElem?_eq_none (by simp; omega), List.getElem?_eq_none (by simp; omega)]
    rw [this]
    exact List.reverse_perm _
theorem ord_perm (l : List Int) (c : Nat) (col back : Bool) : (q_ord l c col back).Perm (q_rep l c) := by
  have h1 : (q_ord l c col back).Perm ((List.range (l.length * c)).map (q_oi l c col)) := by
    have := (at_perm (l.length * c) back).map (q_oi l c col)
    rw [List.map_map] at this
    exact this
  refine h1.trans ?_
  cases col
  · -- all copies of each page together
    have h2 : (List.range (l.length * c)).map (q_oi l c false) = (List.range l.length).flatMap fun i => List.replicate c (l.getD i 0) := by
      rw [← flat_range c (q_oi l c false)]
      congr 1
      funext i
      apply List.ext_getElem?
      intro j
      by_cases hj : j < c
      · rw [List.getElem?_map, List.getElem?_range hj, List.getElem?_replicate, if_pos hj]
        show some (l.getD ((i * c + j) / c) 0) = _
        rw [Nat.mul_comm, Nat.mul_add_div (by omega), Nat.div_eq_of_lt hj, Nat.add_zero]
      · rw [List.getElem?_eq_none (by simp; omega), List.getElem?_eq_none (by simp; omega)]
    rw [h2]
    clear h1 h2
    induction c with
    | zero => simp [q_rep]
    | succ c ih =>
      have e : (fun i => List.replicate (c + 1) (l.getD i 0)) = fun i => List.replicate c (l.getD i 0) ++ [l.getD i 0] := by funext i; rw [List.replicate_succ']
      rw [e]
      refine (flat_app _ _ _).trans ?_
      have e2 : ((List.range l.length).flatMap fun i => [l.getD i 0]) = l := by
        rw [← List.map_eq_flatMap, map_getD]
      rw [e2]
      exact ih.append_right l
  · have h2 : (List.range (l.length * c)).map (q_oi l c true) = q_rep l c := by
      clear h1
      induction c with
      | zero => simp [q_rep]
      | succ c ih =>
        have e : q_oi l (c + 1) true = q_oi l c true := rfl
        rw [Nat.mul_succ, List.range_add, List.map_append, e, ih, List.map_map]
        show _ = q_rep l c ++ l
        congr 1
        refine Eq.trans ?_ (map_getD l)
        apply List.map_congr_left
        intro j hj
        show l.getD ((l.length * c + j) % l.length) 0 = _
        rw [Nat.mul_add_mod, Nat.mod_eq_of_lt (List.mem_range.1 hj)]
    rw [h2]
end Go.Proofs.Ytobfnncpjkeloaa.Sh
