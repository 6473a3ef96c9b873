import Derived.Test.YtlhgmlfhlbmjpaaTlH
namespace Go.Proofs.Ytlhgmlfhlbmjpaa.Sh
open Go Go.RowKit Go.Proofs.Ytlhgmlfhlbmjpaa.Ev Go.Proofs.Try
set_option maxRecDepth 100000
set_option linter.unusedVariables false
/-! what State computes, item by item -/
/-- The items of the first effects, in the order in which they come. -/
def q_ol (g : Nat → Nat → Int) : Nat → List Int
  | 0 => []
  | i + 1 => if g i 0 ∈ q_ol g i then q_ol g i else q_ol g i ++ [g i 0]
def q_kn (g : Nat → Nat → Int) (v : Int) : Nat → Bool
  | 0 => false
  | i + 1 => if g i 0 = v ∧ g i 1 ≠ 2 then true else q_kn g v i
def q_s0 (kind : Int) (kn : Bool) (s : Int) : Int := if kn = false ∧ kind = 0 then 0 else s
def q_s1 (kind p : Int) (s : Int) : Int := if kind = 0 ∧ 0 < p then max s p else if kind = 1 ∧ 0 < p then min s (1000 - p) else s
def q_se (g : Nat → Nat → Int) (p : Nat → Int) (v : Int) : Nat → Int
  | 0 => 1000
  | i + 1 => if g i 0 = v ∧ g i 1 ≠ 2 then q_s1 (g i 1) (p i) (q_s0 (g i 1) (q_kn g v i) (q_se g p v i)) else q_se g p v i
def q_sx (g : Nat → Nat → Int) (p : Nat → Int) (o : Nat) (v : Int) : Nat → Int
  | 0 => 0
  | i + 1 => if g i 0 = v ∧ g i 1 = 2 then q_sx g p o v i + q_pt (g i o) (p i) else q_sx g p o v i
/-- An item's state behind i effects. -/
def q_it (g : Nat → Nat → Int) (p : Nat → Int) (i : Nat) (v : Int) : List Int := [v, q_se g p v i, q_sx g p 5 v i, q_sx g p 6 v i]
/-- The states of the items that a list names. -/
def q_sB (g : Nat → Nat → Int) (p : Nat → Int) (i : Nat) (l : List Int) : Nat → Nat → Int := fun r f => (q_it g p i (l.getD r 0)).getD f 0
theorem ol_nodup (g : Nat → Nat → Int) : ∀ i, (q_ol g i).Nodup := by
  intro i
  induction i with
  | zero => exact List.nodup_nil
  | succ i ih =>
    simp only [q_ol]
    split
    · exact ih
    · rename_i h
      exact List.nodup_append.2 ⟨ih, by simp, fun a ha b hb => by
        obtain rfl := List.mem_singleton.1 hb
        exact fun e => h (e ▸ ha)⟩
theorem ol_len (g : Nat → Nat → Int) : ∀ i, (q_ol g i).length ≤ i := by
  intro i
  induction i with
  | zero => simp [q_ol]
  | succ i ih =>
    simp only [q_ol]
    split
    · omega
    · simp; omega
theorem ol_mem {g : Nat → Nat → Int} {j : Nat} : ∀ i, j < i → g j 0 ∈ q_ol g i := by
  intro i
  induction i with
  | zero => intro h; omega
  | succ i ih =>
    intro h
    simp only [q_ol]
    by_cases e : j = i
    · subst e
      split
      · assumption
      · simp
    · have := ih (by omega)
      split
      · exact this
      · simp [this]
theorem ol_from {g : Nat → Nat → Int} {v : Int} : ∀ i, v ∈ q_ol g i → ∃ j, j < i ∧ g j 0 = v := by
  intro i
  induction i with
  | zero => intro h; cases h
  | succ i ih =>
    intro h
    simp only [q_ol] at h
    split at h
    · obtain ⟨j, h1, h2⟩ := ih h; exact ⟨j, by omega, h2⟩
    · rcases List.mem_append.1 h with h | h
      · obtain ⟨j, h1, h2⟩ := ih h; exact ⟨j, by omega, h2⟩
      · exact ⟨i, by omega, (List.mem_singleton.1 h).symm⟩
theorem new_item {g : Nat → Nat → Int} {p : Nat → Int} {v : Int} : ∀ i, (∀ j, j < i → g j 0 ≠ v) → q_se g p v i = 1000 ∧ q_sx g p 5 v i = 0 ∧ q_sx g p 6 v i = 0 ∧ q_kn g v i = false := by
  intro i
  induction i with
  | zero => intro _; exact ⟨rfl, rfl, rfl, rfl⟩
  | succ i ih =>
    intro h
    obtain ⟨h1, h2, h3, h4⟩ := ih (fun j hj => h j (by omega))
    have hv := h i (by omega)
    refine ⟨?_, ?_, ?_, ?_⟩
    · simp only [q_se]; rw [if_neg (fun e => hv e.1)]; exact h1
    · simp only [q_sx]; rw [if_neg (fun e => hv e.1)]; exact h2
    · simp only [q_sx]; rw [if_neg (fun e => hv e.1)]; exact h3
    · simp only [q_kn]; rw [if_neg (fun e => hv e.1)]; exact h4
/-- The step of one item. -/
theorem up_item {g : Nat → Nat → Int} {p : Nat → Int} {i l k : Nat} {L : List Int} {B : Nat → Nat → Int} {b : Nat → Bool} (hL : L.Nodup) (hl : L.length = l) (hk : k < l) (hv : L.getD k 0 = g i 0) (hB : AgB l B (q_sB g p i L)) (hb : ∀ r, r < l → b r = q_kn g (L.getD r 0) i) :
    AgB l (q_up (g i 1) (g i 5) (g i 6) (p i) (b k) k B) (q_sB g p (i + 1) L) ∧ ∀ r, r < l → q_ub (g i 1) k b r = q_kn g (L.getD r 0) (i + 1) := by
  have hne : ∀ r, r < l → r ≠ k → L.getD r 0 ≠ g i 0 := fun r hr hrk e => by
    rw [← hv] at e
    have h1 : r < L.length := by omega
    have h2 : k < L.length := by omega
    rw [List.getD_eq_getElem?_getD, List.getD_eq_getElem?_getD, List.getElem?_eq_getElem h1, List.getElem?_eq_getElem h2] at e
    have e : some L[r] = some L[k] := congrArg some e
    rcases Nat.lt_or_gt_of_ne hrk with q | q
    · exact List.pairwise_iff_getElem.1 hL r k h1 h2 q (Option.some.inj e)
    · exact List.pairwise_iff_getElem.1 hL k r h2 h1 q (Option.some.inj e).symm
  have far : ∀ v, v ≠ g i 0 → q_it g p (i + 1) v = q_it g p i v := fun v hv => by
    have hv' : g i 0 ≠ v := fun e => hv e.symm
    unfold q_it
    simp only [q_se, q_sx]
    rw [if_neg (fun e => hv' e.1), if_neg (fun e => hv' e.1), if_neg (fun e => hv' e.1)]
  have hput : ∀ (B : Nat → Nat → Int) (o : Nat) (x : Int) (r f : Nat), r ≠ k → putB B k o x r f = B r f := fun B o x r f h => if_neg (fun e => h e.1)
  refine ⟨fun r f hr hf => ?_, fun r hr => ?_⟩
  · by_cases e : r = k
    · subst e
      have b0 := hB r 0 hr (by omega)
      have b1 := hB r 1 hr (by omega)
      have b2 := hB r 2 hr (by omega)
      have b3 := hB r 3 hr (by omega)
      have hbr := hb r hr
      rw [hv] at hbr
      unfold q_sB at b0 b1 b2 b3 ⊢
      rw [hv] at b0 b1 b2 b3 ⊢
      have b0 : B r 0 = g i 0 := b0
      have b1 : B r 1 = q_se g p (g i 0) i := b1
      have b2 : B r 2 = q_sx g p 5 (g i 0) i := b2
      have b3 : B r 3 = q_sx g p 6 (g i 0) i := b3
      unfold q_up
      by_cases h2 : g i 1 = 2
      · have s1 : q_se g p (g i 0) (i + 1) = q_se g p (g i 0) i := by simp only [q_se]; rw [if_neg (fun e => e.2 h2)]
        have s2 : ∀ o, q_sx g p o (g i 0) (i + 1) = q_sx g p o (g i 0) i + q_pt (g i o) (p i) := fun o => by simp only [q_sx]; rw [if_pos ⟨trivial, h2⟩]
        rw [if_pos h2]
        unfold q_it
        rw [s1, s2 5, s2 6]
        rcases (by omega : f = 0 ∨ f = 1 ∨ f = 2 ∨ f = 3) with rfl | rfl | rfl | rfl
        · rw [put_ne (by omega), put_ne (by omega)]; exact b0
        · rw [put_ne (by omega), put_ne (by omega)]; exact b1
        · rw [put_ne (by omega), put_eq, b2]; rfl
        · rw [put_eq, b3]; rfl
      · have s1 : q_se g p (g i 0) (i + 1) = q_s1 (g i 1) (p i) (q_s0 (g i 1) (b r) (B r 1)) := by simp only [q_se]; rw [if_pos ⟨trivial, h2⟩, ← hbr, ← b1]
        have s2 : ∀ o, q_sx g p o (g i 0) (i + 1) = q_sx g p o (g i 0) i := fun o => by simp only [q_sx]; rw [if_neg (fun e => h2 e.2)]
        have o1 : ∀ f, f ≠ 1 → q_b1 (g i 1) (b r) r B r f = B r f := fun f hf => by
          unfold q_b1; split
          · rw [put_ne hf]
          · rfl
        have o2 : q_b1 (g i 1) (b r) r B r 1 = q_s0 (g i 1) (b r) (B r 1) := by
          unfold q_b1 q_s0
          split
          · rw [put_eq]
          · rfl
        rw [if_neg h2]
        unfold q_it
        rw [s1, s2 5, s2 6]
        unfold q_s1
        rw [← o2]
        have tri : ∀ X : Int, (∀ f, f ≠ 1 → (putB (q_b1 (g i 1) (b r) r B) r 1 X) r f = B r f) := fun X f hf => by rw [put_ne hf, o1 f hf]
        rcases (by omega : f = 0 ∨ f = 1 ∨ f = 2 ∨ f = 3) with rfl | rfl | rfl | rfl
        · split
          · rw [tri _ 0 (by omega)]; exact b0
          · split
            · rw [tri _ 0 (by omega)]; exact b0
            · rw [o1 0 (by omega)]; exact b0
        · split
          · rw [put_eq]; rfl
          · split
            · rw [put_eq]; rfl
            · rfl
        · split
          · rw [tri _ 2 (by omega)]; exact b2
          · split
            · rw [tri _ 2 (by omega)]; exact b2
            · rw [o1 2 (by omega)]; exact b2
        · split
          · rw [tri _ 3 (by omega)]; exact b3
          · split
            · rw [tri _ 3 (by omega)]; exact b3
            · rw [o1 3 (by omega)]; exact b3
    · have hB' := hB r f hr hf
      unfold q_sB at hB' ⊢
      rw [far _ (hne r hr e), ← hB']
      have ob : q_b1 (g i 1) (b k) k B r f = B r f := by
        unfold q_b1; split
        · exact hput _ _ _ _ _ e
        · rfl
      unfold q_up
      split
      · rw [hput _ _ _ _ _ e, hput _ _ _ _ _ e]
      · split
        · rw [hput _ _ _ _ _ e, ob]
        · split
          · rw [hput _ _ _ _ _ e, ob]
          · exact ob
  · unfold q_ub
    simp only [q_kn]
    by_cases h2 : g i 1 = 2
    · rw [if_pos h2, if_neg (fun e => e.2 h2)]; exact hb r hr
    · rw [if_neg h2]
      by_cases e : r = k
      · subst e
        rw [if_pos rfl, if_pos ⟨hv.symm, h2⟩]
      · rw [if_neg e, if_neg (fun h => hne r hr e h.1.symm)]
        exact hb r hr
end Go.Proofs.Ytlhgmlfhlbmjpaa.Sh
