import Derived.Test.YtfemkfodakfcmaaDoorShI
namespace Go.Proofs.YtfemkfodakfcmaaDoor.Sh
open Go Go.RowKit Go.Proofs.YtfemkfodakfcmaaDoor.Ev Go.Proofs.Tryd
set_option maxRecDepth 100000
theorem add_ok2 {P : Program} {L : Globs} {D : FuncId → PV} {M : Orac} {g : FuncId} {A : Nat → List PV → Heap → Option (Bool × PV × Heap)} (hM : Sound P L M) (hm : P.follows .mixedOrders = true) (h : ∀ nb vs H v H', A nb vs H = some (true, v, H') → ∃ fl N, Sound P L N ∧ callF P L D fl N nb g vs H = some (v, H')) : Sound P L (addM g A M) := by
  intro nb f vs H v H' e
  unfold addM at e
  split at e
  · rename_i hf
    subst hf
    obtain ⟨fl, N, hN, h1⟩ := h nb vs H v H' e
    exact callF_ok hN hm fl nb f vs H v H' (by unfold upM; rw [h1]; rfl)
  · exact hM nb f vs H v H' e
theorem sOe : ∀ k, Sound prog gl (Oe k) := by
  intro k
  induction k with
  | zero =>
    refine add_ok2 (D := noD) sOd mo (fun nb vs H v H' h => ?_)
    unfold aLoc at h
    split at h
    · rename_i n row c0 c1 c2 c3 c4 c5 c6 c7 c8 c9 s1 s2 x y
      obtain ⟨h1, h2, h3⟩ : q_dec (q_locP 0 n row c1 c3 c4 c5 c6 c7 x y) = true ∧ .tup [i64 (x - q_off row c1 3), i64 (y - q_off row c1 4)] = v ∧ [] = H' := by simpa using h
      subst h2 h3
      have h4 := q_dec_iff.1 h1
      obtain rfl : c1 = 0 := by
        obtain ⟨_, q1, _, _, q2⟩ := h4
        rcases q2 with q2 | ⟨_, q2, _⟩
        · exact q2
        · have := q2.2.1; omega
      exact ⟨1, O4, sO4, loc_eq0 n O2 row c0 c2 c3 c4 c5 c6 c7 c8 c9 s1 s2 x y 0 h4⟩
    · cases h
  | succ k ih =>
    refine add_ok2 (D := noD) sOd mo (fun nb vs H v H' h => ?_)
    unfold aLoc at h
    split at h
    · rename_i n row c0 c1 c2 c3 c4 c5 c6 c7 c8 c9 s1 s2 x y
      obtain ⟨h1, h2, h3⟩ : q_dec (q_locP (k + 1) n row c1 c3 c4 c5 c6 c7 x y) = true ∧ .tup [i64 (x - q_off row c1 3), i64 (y - q_off row c1 4)] = v ∧ [] = H' := by simpa using h
      subst h2 h3
      have h4 := q_dec_iff.1 h1
      by_cases h0 : c1 = 0
      · subst h0
        exact ⟨1, O4, sO4, loc_eq0 n O2 row c0 c2 c3 c4 c5 c6 c7 c8 c9 s1 s2 x y (k + 1) h4⟩
      · obtain ⟨g, sx, jx, rfl⟩ := (h4.2.2.2.2.resolve_left h0).1
        exact ⟨1, Oe k, ih, loc_eq k n g sx jx (cellsOf10 c0 c1 c2 c3 c4 c5 c6 c7 c8 c9) s1 s2 x y h4 h0⟩
    · cases h
/-! Hit -/
noncomputable def Of : Orac := Oe 10
abbrev pHit : List Bool := [true, true, true, false, true, false]
theorem hit_pre (fl n : Nat) (row : Nat → Nat → PS) (x y : Int) : callF prog gl noD fl Of 0 17 [.one (.view n 12 row), .agg [.int .i64 x, .int .i64 y]] [] = (if (q_dec (q_valP n row)) = true then (if (bif bif bif decide (x < (-1048576 : Int)) then true else decide (x > (1048576 : Int)) then true else decide (y < (-1048576 : Int)) then true else decide (y > (1048576 : Int))) = true then (some ((PV.tup [i64 ((0 : Int)), i64 ((2 : Int))], []))) else (rounds (bodyAt prog gl Of noD f17 2 0 fl pHit) (kAt prog gl Of noD f17 2 0 fl pHit) fl ([((7 : Nat), none, i64 ((W (↑n - (1 : Int))))), ((6 : Nat), none, i64 ((0 : Int))), ((5 : Nat), none, i64 ((0 : Int))), ((4 : Nat), none, i64 ((0 : Int))), ((3 : Nat), none, PV.one (PS.ptr (3 : Nat) (0 : Nat))), ((0 : Nat), none, PV.one (PS.view n (12 : Nat) row)), ((1 : Nat), none, PV.agg [PS.int IntKind.i64 x, PS.int IntKind.i64 y])]) ([((3 : Nat), OB.box [PS.int IntKind.i64 x, PS.int IntKind.i64 y])]))) else none) := by kernel_rfl
abbrev hHit (n : Nat) (row : Nat → Nat → PS) (k x y : Int) : En := [(7, none, i64 k), (6, none, i64 0), (5, none, i64 0), (4, none, i64 0), (3, none, .one (.ptr 3 0)), (0, none, .one (.view n 12 row)), (1, none, .agg [.int .i64 x, .int .i64 y])]
theorem hit_step (fl m n : Nat) (g : Nat → Nat → Int) (sx : Nat → Nat → ByteArray) (jx : Nat → Nat → PS) (k x y : Int) (K : Exit → En → Heap → Option (PV × Heap)) : rounds (bodyAt prog gl Of noD f17 2 0 fl pHit) K (m + 1) (hHit n (rwj g sx jx) k x y) [(3, .box [.int .i64 x, .int .i64 y])] = (if (decide (k ≥ (0 : Int))) = true then (chk true (decide ((0 : Int) ≤ k) && decide (k < ↑n)) (if (bif g k.toNat (2 : Nat) == (5 : Int) then true else g k.toNat (2 : Nat) == (6 : Int)) = true then (rounds (bodyAt prog gl Of noD f17 2 0 fl pHit) K m ([((7 : Nat), none, i64 ((W (k - (1 : Int))))), ((6 : Nat), none, i64 ((0 : Int))), ((5 : Nat), none, i64 ((0 : Int))), ((4 : Nat), none, i64 ((0 : Int))), ((3 : Nat), none, PV.one (PS.ptr (3 : Nat) (0 : Nat))), ((0 : Nat), none, PV.one (PS.view n (12 : Nat) (rwj g sx jx))), ((1 : Nat), none, PV.agg [PS.int IntKind.i64 x, PS.int IntKind.i64 y])]) ([((3 : Nat), OB.box [PS.int IntKind.i64 x, PS.int IntKind.i64 y])])) else (if (q_dec (q_locP (10 : Nat) n (rwj g sx jx) (g k.toNat (1 : Nat)) (g k.toNat (3 : Nat)) (g k.toNat (4 : Nat)) (g k.toNat (5 : Nat)) (g k.toNat (6 : Nat)) (g k.toNat (7 : Nat)) x y)) = true then (if (q_dec (q_insP (g k.toNat (3 : Nat)) (g k.toNat (4 : Nat)) (g k.toNat (5 : Nat)) (g k.toNat (6 : Nat)) (x - q_off (rwj g sx jx) (g k.toNat (1 : Nat)) (3 : Nat)) (y - q_off (rwj g sx jx) (g k.toNat (1 : Nat)) (4 : Nat)))) = true then (if (q_ins (g k.toNat (2 : Nat)) (g k.toNat (3 : Nat)) (g k.toNat (4 : Nat)) (g k.toNat (5 : Nat)) (g k.toNat (6 : Nat)) (x - q_off (rwj g sx jx) (g k.toNat (1 : Nat)) (3 : Nat)) (y - q_off (rwj g sx jx) (g k.toNat (1 : Nat)) (4 : Nat))) = true then (K (Exit.ret) ([((5 : Nat), none, i64 ((0 : Int))), ((4 : Nat), none, i64 ((g k.toNat (0 : Nat)))), ((10 : Nat), none, i64 ((y - q_off (rwj g sx jx) (g k.toNat (1 : Nat)) (4 : Nat)))), ((9 : Nat), none, i64 ((x - q_off (rwj g sx jx) (g k.toNat (1 : Nat)) (3 : Nat)))), ((8 : Nat), none, PV.one (PS.ptr (8 : Nat) (0 : Nat))), ((7 : Nat), none, i64 (k)), ((6 : Nat), none, i64 ((0 : Int))), ((3 : Nat), none, PV.one (PS.ptr (3 : Nat) (0 : Nat))), ((0 : Nat), none, PV.one (PS.view n (12 : Nat) (rwj g sx jx))), ((1 : Nat), none, PV.agg [PS.int IntKind.i64 x, PS.int IntKind.i64 y])]) ([((8 : Nat), OB.box [PS.int IntKind.i64 (g k.toNat (0 : Nat)), PS.int IntKind.i64 (g k.toNat (1 : Nat)), PS.int IntKind.i64 (g k.toNat (2 : Nat)), PS.int IntKind.i64 (g k.toNat (3 : Nat)), PS.int IntKind.i64 (g k.toNat (4 : Nat)), PS.int IntKind.i64 (g k.toNat (5 : Nat)), PS.int IntKind.i64 (g k.toNat (6 : Nat)), PS.int IntKind.i64 (g k.toNat (7 : Nat)), PS.int IntKind.i64 (g k.toNat (8 : Nat)), PS.int IntKind.i64 (g k.toNat (9 : Nat)), PS.str (sx k.toNat (10 : Nat)), PS.str (sx k.toNat (11 : Nat))]), ((3 : Nat), OB.box [PS.int IntKind.i64 x, PS.int IntKind.i64 y])])) else (rounds (bodyAt prog gl Of noD f17 2 0 fl pHit) K m ([((7 : Nat), none, i64 ((W (k - (1 : Int))))), ((6 : Nat), none, i64 ((0 : Int))), ((5 : Nat), none, i64 ((0 : Int))), ((4 : Nat), none, i64 ((0 : Int))), ((3 : Nat), none, PV.one (PS.ptr (3 : Nat) (0 : Nat))), ((0 : Nat), none, PV.one (PS.view n (12 : Nat) (rwj g sx jx))), ((1 : Nat), none, PV.agg [PS.int IntKind.i64 x, PS.int IntKind.i64 y])]) ([((3 : Nat), OB.box [PS.int IntKind.i64 x, PS.int IntKind.i64 y])]))) else none) else none))) else (K (Exit.exit (0 : Nat)) ([((7 : Nat), none, i64 (k)), ((6 : Nat), none, i64 ((0 : Int))), ((5 : Nat), none, i64 ((0 : Int))), ((4 : Nat), none, i64 ((0 : Int))), ((3 : Nat), none, PV.one (PS.ptr (3 : Nat) (0 : Nat))), ((0 : Nat), none, PV.one (PS.view n (12 : Nat) (rwj g sx jx))), ((1 : Nat), none, PV.agg [PS.int IntKind.i64 x, PS.int IntKind.i64 y])]) ([((3 : Nat), OB.box [PS.int IntKind.i64 x, PS.int IntKind.i64 y])]))) := by kernel_rfl
def hitF (g : Nat → Nat → Int) (row : Nat → Nat → PS) (x y : Int) : Nat → Int
  | 0 => 0
  | k + 1 => if g k 2 = 5 ∨ g k 2 = 6 then hitF g row x y k else if q_ins (g k 2) (g k 3) (g k 4) (g k 5) (g k 6) (x - q_off row (g k 1) 3) (y - q_off row (g k 1) 4) = true then g k 0 else hitF g row x y k
def q_hit (n : Nat) (row : Nat → Nat → PS) (x y : Int) : Int := hitF (fun i j => q_gi (row i j)) row x y n
def q_hitP (n : Nat) (row : Nat → Nat → PS) (x y : Int) : Prop := q_valP n row ∧ ((-1000000 ≤ x ∧ x ≤ 1000000) ∧ -1000000 ≤ y ∧ y ≤ 1000000) ∧ ∀ i, i < n → q_gi (row i 7) = 0
theorem hit_loop (fl n : Nat) (g : Nat → Nat → Int) (sx : Nat → Nat → ByteArray) (jx : Nat → Nat → PS) (hg : (fun i j => q_gi (rwj g sx jx i j)) = g) (x y : Int) (h : q_hitP n (rwj g sx jx) x y) : ∀ (k m : Nat), k ≤ n → k < m →
    rounds (bodyAt prog gl Of noD f17 2 0 fl pHit) (kAt prog gl Of noD f17 2 0 fl pHit) m (hHit n (rwj g sx jx) ((k : Int) - 1) x y) [(3, .box [.int .i64 x, .int .i64 y])] = some (.tup [i64 (hitF g (rwj g sx jx) x y k), i64 0], []) := by
  obtain ⟨hV, ⟨hx, hy⟩, hz⟩ := h
  have hn := hV.2.1
  obtain ⟨_, hV2⟩ := hV
  rw [hg] at hV2
  have hz' : ∀ i, i < n → g i 7 = 0 := fun i hi => by rw [← gi_rwj g sx jx i 7 (by omega)]; exact hz i hi
  intro k
  induction k with
  | zero =>
    intro m hk hm
    obtain ⟨m, rfl⟩ : ∃ m', m = m' + 1 := ⟨m - 1, by omega⟩
    refine (hit_step fl m n g sx jx _ x y _).trans ((if_neg (by simp <;> omega)).trans ?_)
    kernel_rfl
  | succ k ih =>
    intro m hk hm
    obtain ⟨m, rfl⟩ : ∃ m', m = m' + 1 := ⟨m - 1, by omega⟩
    have hk1 : ((k + 1 : Nat) : Int) - 1 = (k : Int) := by omega
    rw [hk1]
    have hr := ih m (by omega) (by omega)
    have e : W ((k : Int) - 1) = (k : Int) - 1 := W_id (by omega) (by omega)
    obtain ⟨_, a0, a1, a3, a4, a5, a6, _⟩ := hV2.2.1 k (by omega)
    obtain ⟨hS, _⟩ := hV2.2.2.2 k (by omega)
    have hS' : Std n (fun i j => q_gi (rwj g sx jx i j)) (g k 1) := by rw [hg]; exact ⟨hn, hS.2.1, by have := hS.2.2.1; omega, hS.2.2.2⟩
    have hL : q_locP 10 n (rwj g sx jx) (g k 1) (g k 3) (g k 4) (g k 5) (g k 6) (g k 7) x y := ⟨hz' k (by omega), by have := hS'.2.2.1; omega, ⟨a3, a4, by omega, by omega⟩, ⟨by omega, by omega⟩, .inr ⟨⟨g, sx, jx, rfl⟩, hS', fun i hi => hz i (by have := hS'.2.2.1; omega)⟩⟩
    have b1 : -20000 ≤ q_off (rwj g sx jx) (g k 1) 3 ∧ q_off (rwj g sx jx) (g k 1) 3 ≤ 20000 := by have := off_bd (j := 3) (by omega) 10 _ hS'; unfold q_off; omega
    have b2 : -20000 ≤ q_off (rwj g sx jx) (g k 1) 4 ∧ q_off (rwj g sx jx) (g k 1) 4 ≤ 20000 := by have := off_bd (j := 4) (by omega) 10 _ hS'; unfold q_off; omega
    have hI : q_insP (g k 3) (g k 4) (g k 5) (g k 6) (x - q_off (rwj g sx jx) (g k 1) 3) (y - q_off (rwj g sx jx) (g k 1) 4) := ⟨by omega, by omega, a3, a4, a5, a6⟩
    refine (hit_step fl m n g sx jx _ x y _).trans ?_
    rw [if_pos (by simp <;> omega), chk_true (by simp <;> omega), Int.toNat_natCast, e]
    unfold hitF
    by_cases hc : g k 2 = 5 ∨ g k 2 = 6
    · rw [if_pos (c := (g k 2 = 5 ∨ _)) hc, if_pos (by rcases hc with c | c <;> simp [c])]
      exact hr
    · rw [if_neg (c := (g k 2 = 5 ∨ _)) hc, if_neg (by
        have q1 : ¬ g k 2 = 5 := fun h => hc (.inl h)
        have q2 : ¬ g k 2 = 6 := fun h => hc (.inr h)
        simp [q1, q2]), if_pos (q_dec_iff.2 hL), if_pos (q_dec_iff.2 hI)]
      by_cases hq : q_ins (g k 2) (g k 3) (g k 4) (g k 5) (g k 6) (x - q_off (rwj g sx jx) (g k 1) 3) (y - q_off (rwj g sx jx) (g k 1) 4) = true
      · rw [if_pos hq, if_pos hq]
        kernel_rfl
      · rw [if_neg hq, if_neg hq]
        exact hr
theorem gi_gi {row : Nat → Nat → PS} {sx : Nat → Nat → ByteArray} {jx : Nat → Nat → PS} (h : row = rwj (fun i j => q_gi (row i j)) sx jx) : (fun i j => q_gi (rwj (fun i j => q_gi (row i j)) sx jx i j)) = fun i j => q_gi (row i j) := by
  rw [← h]
theorem hit_eq (n : Nat) (row : Nat → Nat → PS) (x y : Int) (h : q_hitP n row x y) : callF prog gl noD 11 Of 0 17 [.one (.view n 12 row), .agg [.int .i64 x, .int .i64 y]] [] = some (.tup [i64 (q_hit n row x y), i64 0], []) := by
  obtain ⟨hx, hy⟩ := h.2.1
  have hn := h.1.2.1
  rw [hit_pre, if_pos (q_dec_iff.2 h.1), if_neg (by
    have lt : ∀ {a b : Int}, b ≤ a → decide (a < b) = false := fun h => by simp <;> omega
    have gt : ∀ {a b : Int}, a ≤ b → decide (a > b) = false := fun h => by simp <;> omega
    rw [lt (by omega), gt (by omega), lt (by omega), gt (by omega)]; decide), W_id (n := (n : Int) - 1) (by omega) (by omega)]
  obtain ⟨sx, jx, hrow⟩ := isRw_gi h.1.1
  have hgg := gi_gi hrow
  unfold q_hit
  generalize (fun i j => q_gi (row i j)) = g at *
  subst hrow
  exact hit_loop 11 n g sx jx hgg x y h n 11 (by omega) (by omega)
noncomputable def aHit : Nat → List PV → Heap → Option (Bool × PV × Heap)
  | 0, [.one (.view n 12 row), .agg [.int .i64 x, .int .i64 y]], [] => some (q_dec (q_hitP n row x y), .tup [i64 (q_hit n row x y), i64 0], [])
  | _, _, _ => none
noncomputable def Og : Orac := addM 17 aHit Of
theorem sOg : Sound prog gl Og := add_ok (D := noD) (sOe 10) (sOe 10) mo (fun nb vs H v H' h => by
  unfold aHit at h
  split at h
  · rename_i n row x y
    obtain ⟨h1, h2, h3⟩ : q_dec (q_hitP n row x y) = true ∧ .tup [i64 (q_hit n row x y), i64 0] = v ∧ [] = H' := by simpa using h
    subst h2 h3
    exact ⟨11, hit_eq n row x y (q_dec_iff.1 h1)⟩
  · cases h)
end Go.Proofs.YtfemkfodakfcmaaDoor.Sh
