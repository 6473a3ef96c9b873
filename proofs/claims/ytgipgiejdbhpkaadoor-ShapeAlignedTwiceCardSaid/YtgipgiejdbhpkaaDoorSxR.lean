import Derived.Test.YtgipgiejdbhpkaaDoorSxP
namespace Go.Proofs.YtgipgiejdbhpkaaDoor.Sh
open Go Go.RowKit Go.Proofs.YtgipgiejdbhpkaaDoor.Ev Go.Proofs.Tryd
set_option maxRecDepth 1000000
set_option linter.unusedVariables false
/-! Align's table -/
theorem el_cg {c c' : Nat → Int} (h : ∀ j, j < 10 → c j = c' j) (a : Int) : q_el c a = q_el c' a ∧ q_eh c a = q_eh c' a := by
  have e1 : q_cx c = q_cx c' := by
    funext k
    rcases k with _ | _ | _ | k <;> simp only [q_cx, h 3 (by omega), h 4 (by omega), h 5 (by omega), h 6 (by omega), h 7 (by omega)]
  have e2 : q_cy c = q_cy c' := by
    funext k
    rcases k with _ | _ | _ | k <;> simp only [q_cy, h 3 (by omega), h 4 (by omega), h 5 (by omega), h 6 (by omega), h 7 (by omega)]
  unfold q_el q_eh
  rw [e1, e2]
  exact ⟨rfl, rfl⟩
theorem ag_cg {n m : Nat} {g g' : Nat → Nat → Int} {B B' : Nat → Nat → Int} {s : Int} (hm : 0 < m) (hg : ∀ i j, i < n → j < 10 → g i j = g' i j) (hB : ∀ k, k < m → B k 0 = B' k 0) (hC : CIn n m (q_at m B')) : ∀ i j, i < n → j < 10 → q_ag g m B s i j = q_ag g' m B' s i j := by
  have hCe : ∀ k, k < m → q_at m B k 0 = q_at m B' k 0 := fun k hk => so_cg (m := m) (fun k hk => by show B k 0 - 1 = B' k 0 - 1; rw [hB k hk]) k hk
  have ell : ∀ k, k < m → q_ll g (q_ax s) (q_at m B) k = q_ll g' (q_ax s) (q_at m B') k := fun k hk => by
    unfold q_ll; rw [hCe k hk]; have := hC k hk; exact (el_cg (fun j hj => hg _ j (by omega) hj) _).1
  have ehh : ∀ k, k < m → q_hh g (q_ax s) (q_at m B) k = q_hh g' (q_ax s) (q_at m B') k := fun k hk => by
    unfold q_hh; rw [hCe k hk]; have := hC k hk; exact (el_cg (fun j hj => hg _ j (by omega) hj) _).2
  have elw : ∀ i, i ≤ m → q_lw g (q_ax s) (q_at m B) i = q_lw g' (q_ax s) (q_at m B') i ∧ q_hw g (q_ax s) (q_at m B) i = q_hw g' (q_ax s) (q_at m B') i := by
    intro i
    induction i with
    | zero => intro _; exact ⟨ell 0 hm, ehh 0 hm⟩
    | succ i ih =>
      intro hi
      obtain ⟨h1, h2⟩ := ih (by omega)
      simp only [q_lw, q_hw]
      rw [h1, h2, ell i (by omega), ehh i (by omega)]
      exact ⟨rfl, rfl⟩
  have emv : ∀ lo hi k, k ≤ m → ∀ i j, i < n → j < 10 → q_mv g s (q_ax s) lo hi (q_at m B) k i j = q_mv g' s (q_ax s) lo hi (q_at m B') k i j := by
    intro lo hi k
    induction k with
    | zero => intro _ i j h1 h2; exact hg i j h1 h2
    | succ k ih =>
      intro hk i j h1 h2
      have := hC k (by omega)
      simp only [q_mv]
      unfold putB
      rw [hCe k (by omega), ell k (by omega), ehh k (by omega), ih (by omega) _ _ (by omega) (by split <;> omega), ih (by omega) i j h1 h2]
  intro i j h1 h2
  unfold q_ag
  rw [(elw m (Nat.le_refl m)).1, (elw m (Nat.le_refl m)).2]
  exact emv _ _ m (Nat.le_refl m) i j h1 h2
def q_agP (n m : Nat) (row r2 : Nat → Nat → PS) (s : Int) : Prop := (q_isRw row ∧ q_gd n (q_nu n row)) ∧ (q_isJ 1 r2 ∧ q_it n m (q_num m 1 r2)) ∧ 0 ≤ s ∧ s < 6
noncomputable def O25 : Orac := addM 12 (fun nb vs H => match nb, vs, H with
  | 0, [.one (.view n 12 row), .one (.view m 1 r2), .one (.int .i64 s)], [] => some (q_dec (q_agP n m row r2 s), .tup [.one (.view n 12 (q_rw (q_ag (q_nu n row) m (q_num m 1 r2) s) (q_tx2 n row))), i64 0], [])
  | _, _, _ => none) O24
theorem gd_cg {n : Nat} {g g' : Nat → Nat → Int} (h : ∀ i j, i < n → j < 10 → g i j = g' i j) (hg : q_gd n g) : q_gd n g' := ⟨hg.1, fun i hi => by
  have := hg.2 i hi
  rwa [h i 0 hi (by omega), h i 1 hi (by omega), h i 2 hi (by omega), h i 3 hi (by omega), h i 4 hi (by omega), h i 5 hi (by omega), h i 6 hi (by omega), h i 7 hi (by omega), h i 8 hi (by omega), h i 9 hi (by omega)] at this⟩
theorem it_cg {n m : Nat} {B B' : Nat → Nat → Int} (h : ∀ k, k < m → B k 0 = B' k 0) (hB : q_it n m B) : q_it n m B' := ⟨hB.1, fun k hk => by rw [← h k hk]; exact hB.2.1 k hk, fun i j hi hj e => hB.2.2 i j hi hj (by rw [h i hi, h j hj]; exact e)⟩
theorem sO25 : Sound prog gl O25 := add_ag (D := DS) sO24 sO24 mo (fun nb vs H v H' h => by
  split at h
  · rename_i n row m r2 s
    obtain ⟨h1, h2, h3⟩ : q_dec (q_agP n m row r2 s) = true ∧ .tup [.one (.view n 12 (q_rw (q_ag (q_nu n row) m (q_num m 1 r2) s) (q_tx2 n row))), i64 0] = v ∧ [] = H' := by simpa using h
    subst h2 h3
    obtain ⟨⟨⟨g, sx, jx, rfl⟩, hg⟩, ⟨⟨B, J, rfl⟩, hB⟩, hs⟩ := q_dec_iff.1 h1
    rw [nu_rwj] at hg
    rw [num_rj] at hB
    have hg' := gd_cg (g' := g) (fun i j hi hj => cutG_in hi hj) hg
    have hB' := it_cg (B' := B) (fun k hk => cut_in hk (by omega)) hB
    refine ⟨14, _, _, ag_eq n m g sx jx J B s hg' hB' hs, .cons ?_ (.cons (.refl _) .nil), .inl rfl⟩
    rw [nu_rwj, num_rj, tx_rwj]
    refine .view (rw_ag (fun i j hi hj => ?_) (fun i j hi hj => ?_))
    · exact (ag_cg hB.1.1 (fun i j hi hj => cutG_in hi hj) (fun k hk => cut_in hk (by omega)) (at_spec hB').1 i j hi hj).symm
    · unfold cutS; rw [if_pos ⟨hi, hj⟩]
  · cases h)
/-! the law -/
abbrev pL1 : List Bool := [true, true, true, false, true, false]
abbrev pL2 : List Bool := [true, true, true, true, true, false, true, false]
abbrev pL3 : List Bool := [true, true, true, true, true, true, true, true, true, true, false, true, false]
noncomputable abbrev yL (fl : Nat) (p : List Bool) : En → Heap → (Exit → En → Heap → Option (PV × Heap)) → Option (PV × Heap) := bodyAt prog gl O25 DS f4 3 0 fl p
noncomputable abbrev kL (fl : Nat) (p : List Bool) := kAt prog gl O25 DS f4 3 0 fl p
theorem al_pre2 (fl n m : Nat) (row r2 : Nat → Nat → PS) (s : Int) : callF prog gl DS fl O25 0 4 [.one (.view (n + 1) 12 row), .one (.view m 1 r2), i64 s] [] = (if (q_dec ((0 : Nat) < n + (1 : Nat) ∧ q_isRw row)) = true then (rounds (yL fl pL1) (kL fl pL1) fl ([((28 : Nat), none, i64 ((0 : Int))), ((27 : Nat), none, i64 ((↑(min (n + (1 : Nat)) (10 : Nat)) : Int))), ((2 : Nat), none, i64 ((q_within s (0 : Int) (5 : Int)))), ((0 : Nat), none, PV.one (PS.os (23 : Nat))), ((6 : Nat), none, PV.one (PS.bool false)), ((1 : Nat), none, PV.one (PS.view m (1 : Nat) r2))]) ([((23 : Nat), OB.rows (26 : Nat) (12 : Nat) (min (n + (1 : Nat)) (10 : Nat)) (q_rw (q_shG false (q_nu (n + (1 : Nat)) row)) (q_shS (q_tx2 (n + (1 : Nat)) row))))])) else none) := by kernel_rfl
theorem al_pre0 (fl m : Nat) (row r2 : Nat → Nat → PS) (s : Int) : callF prog gl DS fl O25 0 4 [.one (.view 0 12 row), .one (.view m 1 r2), i64 s] [] = (rounds (yL fl pL1) (kL fl pL1) fl ([((28 : Nat), none, i64 ((0 : Int))), ((27 : Nat), none, i64 ((0 : Int))), ((2 : Nat), none, i64 ((q_within s (0 : Int) (5 : Int)))), ((0 : Nat), none, PV.one PS.nils), ((6 : Nat), none, PV.one (PS.bool false)), ((1 : Nat), none, PV.one (PS.view m (1 : Nat) r2))]) ([])) := by kernel_rfl
abbrev hL1 (N m : Nat) (r2 : Nat → Nat → PS) (s i : Int) : En := [(28, none, i64 i), (27, none, i64 N), (2, none, i64 s), (0, none, .one (.os 23)), (6, none, bl false), (1, none, .one (.view m 1 r2))]
theorem l1_st (fl mm N m : Nat) (g : Nat → Nat → Int) (sx : Nat → Nat → ByteArray) (jx r2 : Nat → Nat → PS) (s i : Int) : rounds (yL fl pL1) (kL fl pL1) (mm + 1) (hL1 N m r2 s i) [(23, .rows 26 12 N (rwj g sx jx))] = (if (decide (i < (↑N : Int))) = true then (chk true (decide ((0 : Int) ≤ i) && decide (i < (↑N : Int))) (if (decide (i.toNat < N)) = true then (rounds (yL fl pL1) (kL fl pL1) mm ([((28 : Nat), none, i64 ((W (i + (1 : Int))))), ((27 : Nat), none, i64 ((↑N : Int))), ((2 : Nat), none, i64 (s)), ((0 : Nat), none, PV.one (PS.os (23 : Nat))), ((6 : Nat), none, PV.one (PS.bool false)), ((1 : Nat), none, PV.one (PS.view m (1 : Nat) r2))]) ([((23 : Nat), OB.rows (26 : Nat) (12 : Nat) N (putRow (rwj g sx jx) i.toNat (1 : Nat) [PS.int IntKind.i64 (0 : Int)]))])) else none)) else (rounds (yL fl pL2) (kL fl pL2) fl ([((38 : Nat), none, i64 ((0 : Int))), ((37 : Nat), none, i64 ((↑m : Int))), ((36 : Nat), none, PV.one (PS.view m (1 : Nat) r2)), ((8 : Nat), none, PV.one PS.nils), ((28 : Nat), none, i64 (i)), ((27 : Nat), none, i64 ((↑N : Int))), ((2 : Nat), none, i64 (s)), ((0 : Nat), none, PV.one (PS.os (23 : Nat))), ((6 : Nat), none, PV.one (PS.bool false)), ((1 : Nat), none, PV.one (PS.view m (1 : Nat) r2))]) ([((23 : Nat), OB.rows (26 : Nat) (12 : Nat) N (rwj g sx jx))]))) := by kernel_rfl
end Go.Proofs.YtgipgiejdbhpkaaDoor.Sh
