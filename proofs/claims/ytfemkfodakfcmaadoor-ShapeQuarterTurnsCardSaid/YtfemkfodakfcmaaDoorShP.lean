import Derived.Test.YtfemkfodakfcmaaDoorShL
namespace Go.Proofs.YtfemkfodakfcmaaDoor.Sh
open Go Go.RowKit Go.Proofs.YtfemkfodakfcmaaDoor.Ev Go.Proofs.Tryd
set_option maxRecDepth 100000
/-! #### drawn shapes -/
section drawn
variable (g : Nat → Nat → Int)
theorem par_bd (i : Nat) : 0 ≤ q_par g i ∧ q_par g i ≤ i ∧ (q_par g i ≠ 0 → q_shG g (q_par g i - 1).toNat 2 = 5) := by
  unfold q_par
  split
  · rename_i h
    have bd := within_bd (v := W ((g i 1).tdiv 3)) (lo := 0) (hi := (i : Int) - 1) (by omega)
    split
    · rename_i h5
      refine ⟨by omega, by omega, fun _ => ?_⟩
      rw [Int.add_sub_cancel]
      exact h5
    · exact ⟨by omega, by omega, fun h => absurd rfl h⟩
  · exact ⟨by omega, by omega, fun h => absurd rfl h⟩
theorem shG_std {n : Nat} (hn : n ≤ 10) {p : Int} (h0 : 0 ≤ p) (hp : p ≤ n) : Std n (q_shG g) p := ⟨hn, h0, hp, fun i _ => by
  obtain ⟨a1, a2, _⟩ := par_bd g i
  refine ⟨rfl, a1, a2, fun j h3 h6 => ?_, by show (-4000 : Int) ≤ 0; omega, by show (0 : Int) ≤ 4000; omega⟩
  have b3 := within_bd (v := g i 3) (lo := -2000) (hi := 2000) (by omega)
  have b4 := within_bd (v := g i 4) (lo := -2000) (hi := 2000) (by omega)
  have b5 := within_bd (v := g i 5) (lo := 0) (hi := 1500) (by omega)
  have b6 := within_bd (v := g i 6) (lo := 0) (hi := 1500) (by omega)
  rcases (by omega : j = 3 ∨ j = 4 ∨ j = 5 ∨ j = 6) with rfl | rfl | rfl | rfl
  · exact b3
  · exact b4
  · exact ⟨by show -2000 ≤ q_within (g i 5) 0 1500; omega, by show q_within (g i 5) 0 1500 ≤ 2000; omega⟩
  · exact ⟨by show -2000 ≤ q_within (g i 6) 0 1500; omega, by show q_within (g i 6) 0 1500 ≤ 2000; omega⟩⟩
theorem shG_grp (p : Int) (h : p ≠ 0 → q_shG g (p - 1).toNat 2 = 5) : Grp (q_shG g) p := ⟨fun i _ hne => (par_bd g i).2.2 hne, h⟩
theorem shG_at (i : Nat) : (0 ≤ q_shG g i 2 ∧ q_shG g i 2 ≤ 7) ∧ (-2000 ≤ q_shG g i 3 ∧ q_shG g i 3 ≤ 2000) ∧ (-2000 ≤ q_shG g i 4 ∧ q_shG g i 4 ≤ 2000) ∧ (0 ≤ q_shG g i 5 ∧ q_shG g i 5 ≤ 1500) ∧ (0 ≤ q_shG g i 6 ∧ q_shG g i 6 ≤ 1500) ∧ (0 ≤ q_shG g i 8 ∧ q_shG g i 8 ≤ 11) ∧ (0 ≤ q_shG g i 9 ∧ q_shG g i 9 ≤ 11) ∧ (q_shG g i 2 ≠ 6 → q_shG g i 8 = 0 ∧ q_shG g i 9 = 0) := by
  refine ⟨within_bd (by omega), within_bd (by omega), within_bd (by omega), within_bd (by omega), within_bd (by omega), ?_, ?_, fun h => ?_⟩
  · show (0 : Int) ≤ (if q_within (g i 2) 0 7 = 6 then q_within (g i 8) 0 11 else 0) ∧ (if q_within (g i 2) 0 7 = 6 then q_within (g i 8) 0 11 else 0) ≤ 11
    split
    · exact within_bd (by omega)
    · omega
  · show (0 : Int) ≤ (if q_within (g i 2) 0 7 = 6 then q_within (g i 9) 0 11 else 0) ∧ (if q_within (g i 2) 0 7 = 6 then q_within (g i 9) 0 11 else 0) ≤ 11
    split
    · exact within_bd (by omega)
    · omega
  · have h' : ¬ q_within (g i 2) 0 7 = 6 := h
    exact ⟨(if_neg h' : (if q_within (g i 2) 0 7 = 6 then q_within (g i 8) 0 11 else 0) = (0 : Int)), (if_neg h' : (if q_within (g i 2) 0 7 = 6 then q_within (g i 9) 0 11 else 0) = (0 : Int))⟩
theorem shG_val {n : Nat} (hn : n ≤ 10) : Val n (q_shG g) := by
  refine ⟨hn, fun i hi => ?_, fun i k hik hk => ?_, fun k hk => ?_⟩
  · obtain ⟨a2, a3, a4, a5, a6, a8, a9, a10⟩ := shG_at g i
    obtain ⟨p1, p2, _⟩ := par_bd g i
    have e0 : q_shG g i 0 = (i : Int) + 1 := rfl
    have e1 : q_shG g i 1 = q_par g i := rfl
    have e7 : q_shG g i 7 = 0 := rfl
    rw [e0, e1, e7]
    exact ⟨a2, ⟨by omega, by omega⟩, ⟨by omega, by omega⟩, ⟨by omega, by omega⟩, ⟨by omega, by omega⟩, ⟨by omega, by omega⟩, ⟨by omega, by omega⟩, ⟨by omega, by omega⟩, ⟨by omega, by omega⟩, ⟨by omega, by omega⟩, a10⟩
  · show (i : Int) + 1 ≠ (k : Int) + 1
    omega
  · obtain ⟨p1, p2, p3⟩ := par_bd g k
    exact ⟨shG_std g (by omega) p1 p2, shG_grp g _ p3⟩
end drawn
end Go.Proofs.YtfemkfodakfcmaaDoor.Sh
