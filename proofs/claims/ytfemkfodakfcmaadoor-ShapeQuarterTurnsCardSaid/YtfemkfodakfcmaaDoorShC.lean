import Derived.Test.YtfemkfodakfcmaaDoorShB
namespace Go.Proofs.YtfemkfodakfcmaaDoor.Sh
open Go Go.RowKit Go.Proofs.YtfemkfodakfcmaaDoor.Ev Go.Proofs.Tryd
set_option maxRecDepth 100000
/-! find: IndexFunc with a closure -/
noncomputable def MI : Orac := upM (callF prog gl noD 1 noM)
theorem sMI : Sound prog gl MI := callF_ok none_ok mo 1
abbrev pIx : List Bool := [true, false, true, false]
abbrev hIx (n : Nat) (row : Nat → Nat → PS) (i : Int) : En := [(8, none, i64 i), (7, none, i64 n), (4, none, i64 0), (0, none, .one (.view n 12 row)), (1, none, .fn 39 [.ptr 3 0])]
theorem ix_step (fl m n : Nat) (g : Nat → Nat → Int) (sx : Nat → Nat → ByteArray) (jx : Nat → Nat → PS) (i x : Int) (K : Exit → En → Heap → Option (PV × Heap)) : rounds (bodyAt prog gl MI noD f38 2 8 fl pIx) K (m + 1) (hIx n (rwj g sx jx) i) [(3, .box [.int .i64 x])] = (if (decide (i < ↑n)) = true then (chk true (decide ((0 : Int) ≤ i) && decide (i < ↑n)) (if (g i.toNat (0 : Nat) == x) = true then (K (Exit.ret) ([((4 : Nat), none, i64 (i)), ((5 : Nat), none, i64 (i)), ((8 : Nat), none, i64 (i)), ((7 : Nat), none, i64 (↑n)), ((0 : Nat), none, PV.one (PS.view n (12 : Nat) (rwj g sx jx))), ((1 : Nat), none, PV.fn (39 : Nat) [PS.ptr (3 : Nat) (0 : Nat)])]) ([((3 : Nat), OB.box [PS.int IntKind.i64 x])])) else (rounds (bodyAt prog gl MI noD f38 2 8 fl pIx) K m ([((8 : Nat), none, i64 ((W (i + (1 : Int))))), ((7 : Nat), none, i64 (↑n)), ((4 : Nat), none, i64 ((0 : Int))), ((0 : Nat), none, PV.one (PS.view n (12 : Nat) (rwj g sx jx))), ((1 : Nat), none, PV.fn (39 : Nat) [PS.ptr (3 : Nat) (0 : Nat)])]) ([((3 : Nat), OB.box [PS.int IntKind.i64 x])])))) else (K (Exit.exit (0 : Nat)) ([((8 : Nat), none, i64 (i)), ((7 : Nat), none, i64 (↑n)), ((4 : Nat), none, i64 ((0 : Int))), ((0 : Nat), none, PV.one (PS.view n (12 : Nat) (rwj g sx jx))), ((1 : Nat), none, PV.fn (39 : Nat) [PS.ptr (3 : Nat) (0 : Nat)])]) ([((3 : Nat), OB.box [PS.int IntKind.i64 x])]))) := by kernel_rfl
theorem ix_pre (fl n : Nat) (g : Nat → Nat → Int) (sx : Nat → Nat → ByteArray) (jx : Nat → Nat → PS) (x : Int) : callF prog gl noD fl MI 8 38 [.one (.view n 12 (rwj g sx jx)), .fn 39 [.ptr 3 0]] [(3, .box [.int .i64 x])] = (rounds (bodyAt prog gl MI noD f38 2 8 fl pIx) (kAt prog gl MI noD f38 2 8 fl pIx) fl ([((8 : Nat), none, i64 ((0 : Int))), ((7 : Nat), none, i64 (↑n)), ((4 : Nat), none, i64 ((0 : Int))), ((0 : Nat), none, PV.one (PS.view n (12 : Nat) (rwj g sx jx))), ((1 : Nat), none, PV.fn (39 : Nat) [PS.ptr (3 : Nat) (0 : Nat)])]) ([((3 : Nat), OB.box [PS.int IntKind.i64 x])])) := by kernel_rfl
def ixo (p : Nat → Bool) : Nat → Nat → Option Nat
  | 0, _ => none
  | k + 1, i => if p i = true then some i else ixo p k (i + 1)
def q_ixv (o : Option Nat) : Int := match o with
  | some q => q
  | none => -1
theorem ix_loop (fl n : Nat) (hn : n ≤ 1000000) (g : Nat → Nat → Int) (sx : Nat → Nat → ByteArray) (jx : Nat → Nat → PS) (x : Int) : ∀ (k i m : Nat), i + k = n → k < m →
    rounds (bodyAt prog gl MI noD f38 2 8 fl pIx) (kAt prog gl MI noD f38 2 8 fl pIx) m (hIx n (rwj g sx jx) i) [(3, .box [.int .i64 x])] = some (i64 (q_ixv (ixo (fun q => g q 0 == x) k i)), [(3, .box [.int .i64 x])]) := by
  intro k
  induction k with
  | zero =>
    intro i m hi hm
    obtain ⟨m, rfl⟩ : ∃ m', m = m' + 1 := ⟨m - 1, by omega⟩
    rw [ix_step, if_neg (by simp; omega)]
    kernel_rfl
  | succ k ih =>
    intro i m hi hm
    obtain ⟨m, rfl⟩ : ∃ m', m = m' + 1 := ⟨m - 1, by omega⟩
    rw [ix_step, if_pos (by simp; omega), chk_true (by simp; omega)]
    unfold ixo
    by_cases hp : (g i 0 == x) = true
    · rw [if_pos (by simpa using hp)]
      simp only [hp, if_true]
      kernel_rfl
    · rw [if_neg (by simpa using hp)]
      simp only [hp]
      have e : W ((i : Int) + 1) = ((i + 1 : Nat) : Int) := by rw [show ((i + 1 : Nat) : Int) = (i : Int) + 1 by omega]; exact W_id (by omega) (by omega)
      rw [e, ih (i + 1) m (by omega) (by omega)]
      rfl
/-- The place of an item. -/
def q_find (n : Nat) (g : Nat → Nat → Int) (x : Int) : Int := q_ixv (ixo (fun q => g q 0 == x) n 0)
theorem ix_eq (fl n : Nat) (hn : n ≤ 1000000) (hfl : n < fl) (g : Nat → Nat → Int) (sx : Nat → Nat → ByteArray) (jx : Nat → Nat → PS) (x : Int) :
    callF prog gl noD fl MI 8 38 [.one (.view n 12 (rwj g sx jx)), .fn 39 [.ptr 3 0]] [(3, .box [.int .i64 x])] = some (i64 (q_find n g x), [(3, .box [.int .i64 x])]) :=
  (ix_pre fl n g sx jx x).trans (ix_loop fl n hn g sx jx x n 0 fl (by omega) hfl)
noncomputable def q_dec (p : Prop) : Bool := @decide p (Classical.propDecidable p)
theorem q_dec_iff {p : Prop} : q_dec p = true ↔ p := by unfold q_dec; simp
noncomputable def aIx : Nat → List PV → Heap → Option (Bool × PV × Heap)
  | 8, [.one (.view n 12 row), .fn 39 [.ptr 3 0]], [(3, .box [.int .i64 x])] => some (q_dec (q_isRw row) && Nat.ble n 1000000, i64 (q_find n (fun i j => q_gi (row i j)) x), [(3, .box [.int .i64 x])])
  | _, _, _ => none
theorem gi_rwj (g : Nat → Nat → Int) (sx : Nat → Nat → ByteArray) (jx : Nat → Nat → PS) (i j : Nat) (h : j < 10) : q_gi (rwj g sx jx i j) = g i j := by unfold rwj; rw [if_pos h]; rfl
theorem find_congr {n : Nat} {g g' : Nat → Nat → Int} {x : Int} (h : ∀ i, i < n → g i 0 = g' i 0) : q_find n g x = q_find n g' x := by
  unfold q_find
  have : ∀ k i, i + k = n → ixo (fun q => g q 0 == x) k i = ixo (fun q => g' q 0 == x) k i := by
    intro k
    induction k with
    | zero => intro i _; rfl
    | succ k ih =>
      intro i hi
      unfold ixo
      rw [h i (by omega), ih (i + 1) (by omega)]
  rw [this n 0 (by omega)]
noncomputable def O5 : Orac := addM 38 aIx O4
theorem sO5 : Sound prog gl O5 := add_ok (D := noD) sO4 sMI mo (fun nb vs H v H' h => by
  unfold aIx at h
  split at h
  · rename_i n row x
    obtain ⟨⟨h1, h4⟩, h2, h3⟩ : (q_dec (q_isRw row) = true ∧ Nat.ble n 1000000 = true) ∧ i64 (q_find n (fun i j => q_gi (row i j)) x) = v ∧ [(3, OB.box [.int .i64 x])] = H' := by simpa using h
    obtain ⟨g, sx, jx, rfl⟩ := q_dec_iff.1 h1
    subst h2 h3
    refine ⟨n + 1, ?_⟩
    rw [ix_eq (n + 1) n (Nat.le_of_ble_eq_true h4) (by omega) g sx jx x]
    rw [find_congr (g := g) (g' := fun i j => q_gi (rwj g sx jx i j)) (fun i _ => (gi_rwj g sx jx i 0 (by omega)).symm)]
  · cases h)
end Go.Proofs.YtfemkfodakfcmaaDoor.Sh
