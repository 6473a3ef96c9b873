import Derived.Test.YtfemkfodakfcmaaChB
namespace Go.Proofs.Ytfemkfodakfcmaa.Sh
open Go Go.RowKit Go.Proofs.Ytfemkfodakfcmaa.Ev Go.Proofs.Try
set_option maxRecDepth 100000
set_option linter.unusedVariables false
/-! Range -/
abbrev pRg : List Bool := [true, true, true, true, false, true, false]
abbrev rRj : List Bool := [true, true, false, false, true, true, false, true, false]
abbrev pRj : List Bool := pRg ++ (false :: rRj)
abbrev hRg (k : Int) (n m : Nat) (nr sr : Nat → Nat → PS) (lo hi i : Int) : En := [(35, none, i64 i), (34, none, i64 n), (7, none, i64 hi), (6, none, i64 lo), (5, none, i64 0), (4, none, i64 0), (3, none, i64 0), (2, none, i64 0), (1, none, .one (.ptr 1 0)), (0, none, .agg [.int .i64 k, .view n 1 nr, .view m 1 sr])]
noncomputable abbrev bRg (fl : Nat) : En → Heap → (Exit → En → Heap → Option (PV × Heap)) → Option (PV × Heap) := bodyAt prog gl O6 noD f18 1 0 fl pRg
noncomputable abbrev bRj (fl : Nat) : En → Heap → (Exit → En → Heap → Option (PV × Heap)) → Option (PV × Heap) := bodyAt prog gl O6 noD f18 1 0 fl pRj
noncomputable abbrev kRg (fl : Nat) := kAt prog gl O6 noD f18 1 0 fl pRg
noncomputable def kRj (fl n m mm : Nat) (k : Int) (nr : Nat → Nat → PS) (V : Nat → Nat → Int) (lo hi i : Int) : Exit → En → Heap → Option (PV × Heap) := kontAt prog gl O6 noD (liveF f18) [] (0 + nOf f18 1 + 1) 0 (nOf f18 1) fl rRj (codeAt (pRg ++ [false]) (bodyOf f18)) (kRound (bRg fl) (kRg fl) mm (hRg k n m nr (q_sr n V) lo hi i) (bCk k n m nr (q_sr n V)))
theorem rg_pre (fl n m : Nat) (k : Int) (nr : Nat → Nat → PS) (V : Nat → Nat → Int) : callF prog gl noD fl O6 0 18 [.agg [.int .i64 k, .view n 1 nr, .view m 1 (q_sr n V)]] [] = (if (q_dec (q_isS n (q_sr n V) ∧ q_ok k n m (q_V (q_sr n V)))) = true then (if (k == (2 : Int)) = true then (chk true (true && decide ((0 : Int) < (↑m : Int))) (chk true (true && decide ((0 : Int) < (↑n : Int))) (chk true (true && decide ((0 : Int) < (↑m : Int))) (chk true (true && decide ((0 : Int) < (↑n : Int))) (rounds (bRg fl) (kRg fl) fl ([((35 : Nat), none, i64 ((0 : Int))), ((34 : Nat), none, i64 ((↑n : Int))), ((7 : Nat), none, i64 ((V (0 : Nat) (0 : Nat)))), ((6 : Nat), none, i64 ((V (0 : Nat) (0 : Nat)))), ((5 : Nat), none, i64 ((0 : Int))), ((4 : Nat), none, i64 ((0 : Int))), ((3 : Nat), none, i64 ((0 : Int))), ((2 : Nat), none, i64 ((0 : Int))), ((1 : Nat), none, PV.one (PS.ptr (1 : Nat) (0 : Nat))), ((0 : Nat), none, PV.agg [PS.int IntKind.i64 k, PS.view n (1 : Nat) nr, PS.view m (1 : Nat) (q_sr n V)])]) ([((1 : Nat), OB.box [PS.int IntKind.i64 k, PS.view n (1 : Nat) nr, PS.view m (1 : Nat) (q_sr n V)])])))))) else (rounds (bRg fl) (kRg fl) fl ([((35 : Nat), none, i64 ((0 : Int))), ((34 : Nat), none, i64 ((↑n : Int))), ((7 : Nat), none, i64 ((0 : Int))), ((6 : Nat), none, i64 ((0 : Int))), ((5 : Nat), none, i64 ((0 : Int))), ((4 : Nat), none, i64 ((0 : Int))), ((3 : Nat), none, i64 ((0 : Int))), ((2 : Nat), none, i64 ((0 : Int))), ((1 : Nat), none, PV.one (PS.ptr (1 : Nat) (0 : Nat))), ((0 : Nat), none, PV.agg [PS.int IntKind.i64 k, PS.view n (1 : Nat) nr, PS.view m (1 : Nat) (q_sr n V)])]) ([((1 : Nat), OB.box [PS.int IntKind.i64 k, PS.view n (1 : Nat) nr, PS.view m (1 : Nat) (q_sr n V)])]))) else none) := by kernel_rfl
theorem rg_step (fl n m mm : Nat) (k : Int) (nr : Nat → Nat → PS) (V : Nat → Nat → Int) (lo hi i : Int) : rounds (bRg fl) (kRg fl) (mm + 1) (hRg k n m nr (q_sr n V) lo hi i) (bCk k n m nr (q_sr n V)) = (if (decide (i < (↑n : Int))) = true then (rounds (bRj fl) (kRj fl n m mm k nr V lo hi i) fl ([((41 : Nat), none, i64 ((0 : Int))), ((40 : Nat), none, i64 ((↑m : Int))), ((39 : Nat), none, PV.one (PS.view m (1 : Nat) (q_sr n V))), ((9 : Nat), none, i64 ((0 : Int))), ((8 : Nat), none, i64 (i)), ((35 : Nat), none, i64 (i)), ((34 : Nat), none, i64 ((↑n : Int))), ((7 : Nat), none, i64 (hi)), ((6 : Nat), none, i64 (lo)), ((5 : Nat), none, i64 ((0 : Int))), ((4 : Nat), none, i64 ((0 : Int))), ((3 : Nat), none, i64 ((0 : Int))), ((2 : Nat), none, i64 ((0 : Int))), ((1 : Nat), none, PV.one (PS.ptr (1 : Nat) (0 : Nat))), ((0 : Nat), none, PV.agg [PS.int IntKind.i64 k, PS.view n (1 : Nat) nr, PS.view m (1 : Nat) (q_sr n V)])]) ([((1 : Nat), OB.box [PS.int IntKind.i64 k, PS.view n (1 : Nat) nr, PS.view m (1 : Nat) (q_sr n V)])])) else (some ((PV.tup [i64 (lo), i64 (hi), i64 ((0 : Int))], [])))) := by kernel_rfl
abbrev hRj (k : Int) (n m : Nat) (nr : Nat → Nat → PS) (V : Nat → Nat → Int) (lo0 hi0 lo hi sum i j : Int) : En := [(41, none, i64 j), (40, none, i64 m), (39, none, .one (.view m 1 (q_sr n V))), (9, none, i64 sum), (8, none, i64 i), (35, none, i64 i), (34, none, i64 n), (7, none, i64 hi), (6, none, i64 lo), (5, none, i64 0), (4, none, i64 0), (3, none, i64 0), (2, none, i64 0), (1, none, .one (.ptr 1 0)), (0, none, .agg [.int .i64 k, .view n 1 nr, .view m 1 (q_sr n V)])]
theorem rj_step (fl n m mm m0 : Nat) (k : Int) (nr : Nat → Nat → PS) (V : Nat → Nat → Int) (lo0 hi0 lo hi sum i j : Int) : rounds (bRj fl) (kRj fl n m mm k nr V lo0 hi0 i) (m0 + 1) (hRj k n m nr V lo0 hi0 lo hi sum i j) (bCk k n m nr (q_sr n V)) = (if (decide (j < (↑m : Int))) = true then (chk true (decide ((0 : Int) ≤ j) && decide (j < (↑m : Int))) (chk true (decide ((0 : Int) ≤ i) && decide (i < (↑n : Int))) (if (k != (1 : Int)) = true then (chk true (decide ((0 : Int) ≤ i) && decide (i < (↑n : Int))) (chk true (decide ((0 : Int) ≤ i) && decide (i < (↑n : Int))) (rounds (bRj fl) (kRj fl n m mm k nr V lo0 hi0 i) m0 ([((41 : Nat), none, i64 ((W (j + (1 : Int))))), ((40 : Nat), none, i64 ((↑m : Int))), ((39 : Nat), none, PV.one (PS.view m (1 : Nat) (q_sr n V))), ((9 : Nat), none, i64 ((W (sum + V j.toNat i.toNat)))), ((8 : Nat), none, i64 (i)), ((35 : Nat), none, i64 (i)), ((34 : Nat), none, i64 ((↑n : Int))), ((7 : Nat), none, i64 ((bif decide (V j.toNat i.toNat > hi) then V j.toNat i.toNat else hi))), ((6 : Nat), none, i64 ((bif decide (V j.toNat i.toNat < lo) then V j.toNat i.toNat else lo))), ((5 : Nat), none, i64 ((0 : Int))), ((4 : Nat), none, i64 ((0 : Int))), ((3 : Nat), none, i64 ((0 : Int))), ((2 : Nat), none, i64 ((0 : Int))), ((1 : Nat), none, PV.one (PS.ptr (1 : Nat) (0 : Nat))), ((0 : Nat), none, PV.agg [PS.int IntKind.i64 k, PS.view n (1 : Nat) nr, PS.view m (1 : Nat) (q_sr n V)])]) ([((1 : Nat), OB.box [PS.int IntKind.i64 k, PS.view n (1 : Nat) nr, PS.view m (1 : Nat) (q_sr n V)])])))) else (rounds (bRj fl) (kRj fl n m mm k nr V lo0 hi0 i) m0 ([((41 : Nat), none, i64 ((W (j + (1 : Int))))), ((40 : Nat), none, i64 ((↑m : Int))), ((39 : Nat), none, PV.one (PS.view m (1 : Nat) (q_sr n V))), ((9 : Nat), none, i64 ((W (sum + V j.toNat i.toNat)))), ((8 : Nat), none, i64 (i)), ((35 : Nat), none, i64 (i)), ((34 : Nat), none, i64 ((↑n : Int))), ((7 : Nat), none, i64 (hi)), ((6 : Nat), none, i64 (lo)), ((5 : Nat), none, i64 ((0 : Int))), ((4 : Nat), none, i64 ((0 : Int))), ((3 : Nat), none, i64 ((0 : Int))), ((2 : Nat), none, i64 ((0 : Int))), ((1 : Nat), none, PV.one (PS.ptr (1 : Nat) (0 : Nat))), ((0 : Nat), none, PV.agg [PS.int IntKind.i64 k, PS.view n (1 : Nat) nr, PS.view m (1 : Nat) (q_sr n V)])]) ([((1 : Nat), OB.box [PS.int IntKind.i64 k, PS.view n (1 : Nat) nr, PS.view m (1 : Nat) (q_sr n V)])]))))) else (if (k == (1 : Int)) = true then (rounds (bRg fl) (kRg fl) mm ([((35 : Nat), none, i64 ((W (i + (1 : Int))))), ((34 : Nat), none, i64 ((↑n : Int))), ((7 : Nat), none, i64 ((bif decide (sum > hi) then sum else hi))), ((6 : Nat), none, i64 (lo)), ((5 : Nat), none, i64 ((0 : Int))), ((4 : Nat), none, i64 ((0 : Int))), ((3 : Nat), none, i64 ((0 : Int))), ((2 : Nat), none, i64 ((0 : Int))), ((1 : Nat), none, PV.one (PS.ptr (1 : Nat) (0 : Nat))), ((0 : Nat), none, PV.agg [PS.int IntKind.i64 k, PS.view n (1 : Nat) nr, PS.view m (1 : Nat) (q_sr n V)])]) ([((1 : Nat), OB.box [PS.int IntKind.i64 k, PS.view n (1 : Nat) nr, PS.view m (1 : Nat) (q_sr n V)])])) else (rounds (bRg fl) (kRg fl) mm ([((35 : Nat), none, i64 ((W (i + (1 : Int))))), ((34 : Nat), none, i64 ((↑n : Int))), ((7 : Nat), none, i64 (hi)), ((6 : Nat), none, i64 (lo)), ((5 : Nat), none, i64 ((0 : Int))), ((4 : Nat), none, i64 ((0 : Int))), ((3 : Nat), none, i64 ((0 : Int))), ((2 : Nat), none, i64 ((0 : Int))), ((1 : Nat), none, PV.one (PS.ptr (1 : Nat) (0 : Nat))), ((0 : Nat), none, PV.agg [PS.int IntKind.i64 k, PS.view n (1 : Nat) nr, PS.view m (1 : Nat) (q_sr n V)])]) ([((1 : Nat), OB.box [PS.int IntKind.i64 k, PS.view n (1 : Nat) nr, PS.view m (1 : Nat) (q_sr n V)])])))) := by kernel_rfl
theorem bmax {a b : Int} : (bif decide (a > b) then a else b) = max b a := by by_cases h : a > b <;> simp [h] <;> omega
theorem bmin {a b : Int} : (bif decide (a < b) then a else b) = min b a := by by_cases h : a < b <;> simp [h] <;> omega
/-- The sum of the first values of a name. -/
def q_sum (V : Nat → Nat → Int) (i : Nat) : Nat → Int
  | 0 => 0
  | j + 1 => q_sum V i j + V j i
theorem sum_le {k : Int} {n m : Nat} {V : Nat → Nat → Int} (h : q_ok k n m V) {i : Nat} (hi : i < n) : ∀ j, j ≤ m → -1000 * (j : Int) ≤ q_sum V i j ∧ q_sum V i j ≤ 1000 * (j : Int) := by
  intro j
  induction j with
  | zero => intro _; simp [q_sum]
  | succ j ih =>
    intro hj
    have h1 := ih (by omega)
    have h2 := (h.2.2.2 j i (by omega) hi).1
    unfold q_sum
    omega
theorem sum_pos {n m : Nat} {V : Nat → Nat → Int} (h : q_ok 1 n m V) {i : Nat} (hi : i < n) : ∀ j j', j ≤ j' → j' ≤ m → 0 ≤ q_sum V i j ∧ q_sum V i j ≤ q_sum V i j' := by
  intro j j'
  induction j' generalizing j with
  | zero => intro h1 _; obtain rfl : j = 0 := by omega
            simp [q_sum]
  | succ j' ih =>
    intro h1 h2
    have h3 := (h.2.2.2 j' i (by omega) hi).2 rfl
    by_cases e : j = j' + 1
    · subst e
      have := (ih j' (by omega) (by omega)).1
      simp only [q_sum]; omega
    · have := ih j (by omega) (by omega)
      simp only [q_sum]; omega
def RgO (k : Int) (m : Nat) (V : Nat → Nat → Int) (i : Nat) (lo hi : Int) : Prop := (-12000 ≤ lo ∧ lo ≤ hi ∧ hi ≤ 12000) ∧ (k ≠ 2 → lo ≤ 0 ∧ 0 ≤ hi) ∧ (k = 1 → lo = 0) ∧ (k ≠ 1 → ∀ i', i' < i → ∀ j, j < m → lo ≤ V j i' ∧ V j i' ≤ hi) ∧ (k = 1 → ∀ i', i' < i → q_sum V i' m ≤ hi)
theorem rj_loop (fl n m mm m0 i : Nat) (k : Int) (nr : Nat → Nat → PS) (V : Nat → Nat → Int) (lo0 hi0 : Int) (h : q_ok k n m V) (hi : i < n) (h0 : m < m0) (hO : RgO k m V i lo0 hi0) :
    ∃ lo hi, RgO k m V (i + 1) lo hi ∧ rounds (bRj fl) (kRj fl n m mm k nr V lo0 hi0 i) m0 (hRj k n m nr V lo0 hi0 lo0 hi0 0 i (0 : Nat)) (bCk k n m nr (q_sr n V)) = rounds (bRg fl) (kRg fl) mm (hRg k n m nr (q_sr n V) lo hi ((i + 1 : Nat) : Int)) (bCk k n m nr (q_sr n V)) := by
  have hh := h
  obtain ⟨⟨k1, k2⟩, ⟨n1, n2⟩, ⟨m1, m2⟩, hV⟩ := h
  refine loop_ex (σ := Int × Int × Int) (fun j s => hRj k n m nr V lo0 hi0 s.1 s.2.1 s.2.2 i j) (fun _ _ => bCk k n m nr (q_sr n V)) (fun j s => RgO k m V i s.1 s.2.1 ∧ s.2.2 = q_sum V i j ∧ (k ≠ 1 → ∀ j', j' < j → s.1 ≤ V j' i ∧ V j' i ≤ s.2.1)) m (Z := fun x => ∃ lo hi, RgO k m V (i + 1) lo hi ∧ x = rounds (bRg fl) (kRg fl) mm (hRg k n m nr (q_sr n V) lo hi ((i + 1 : Nat) : Int)) (bCk k n m nr (q_sr n V))) ?_ ?_ m0 0 (lo0, hi0, 0) (by omega) (by omega) ⟨hO, rfl, fun _ j' hj => absurd hj (by omega)⟩
  · rintro j ⟨lo, hi', sum⟩ m0 hj ⟨⟨b1, b2, b3, b4, b5⟩, rfl, b6⟩
    have b1 : -12000 ≤ lo ∧ lo ≤ hi' ∧ hi' ≤ 12000 := b1
    have b6 : k ≠ 1 → ∀ j', j' < j → lo ≤ V j' i ∧ V j' i ≤ hi' := b6
    have b4 : k ≠ 1 → ∀ i', i' < i → ∀ j, j < m → lo ≤ V j i' ∧ V j i' ≤ hi' := b4
    obtain ⟨⟨v1, v2⟩, v3⟩ := hV j i hj hi
    have hs := sum_le hh hi j (by omega)
    have e : W (q_sum V i j + V j i) = q_sum V i (j + 1) := by rw [W_id (by omega) (by omega)]; rfl
    simp only
    rw [rj_step, if_pos (by simp; omega), chk_true (by simp; omega), chk_true (by simp; omega), Int.toNat_natCast, Int.toNat_natCast, W_nat (by omega), e, bmax, bmin]
    by_cases hk : k = 1
    · rw [if_neg (by simp [hk])]
      exact ⟨(lo, hi', q_sum V i (j + 1)), ⟨⟨b1, b2, b3, b4, b5⟩, rfl, fun hne => absurd hk hne⟩, rfl⟩
    · rw [if_pos (by simp [hk]), chk_true (by simp; omega), chk_true (by simp; omega)]
      refine ⟨(min lo (V j i), max hi' (V j i), q_sum V i (j + 1)), ⟨⟨?_, ?_, ?_, ?_, ?_⟩, rfl, ?_⟩, rfl⟩
      · show -12000 ≤ min lo (V j i) ∧ min lo (V j i) ≤ max hi' (V j i) ∧ max hi' (V j i) ≤ 12000
        omega
      · intro h2; have : lo ≤ 0 ∧ 0 ≤ hi' := b2 h2
        show min lo (V j i) ≤ 0 ∧ 0 ≤ max hi' (V j i)
        omega
      · intro h1; exact absurd h1 hk
      · intro h1 i' hi' j' hj'
        have := b4 h1 i' hi' j' hj'
        show min lo (V j i) ≤ _ ∧ _ ≤ max _ (V j i)
        omega
      · intro h1; exact absurd h1 hk
      · intro h1 j' hj'
        show min lo (V j i) ≤ _ ∧ _ ≤ max _ (V j i)
        by_cases e : j' = j
        · subst e; omega
        · have := b6 h1 j' (by omega)
          omega
  · rintro ⟨lo, hi', sum⟩ m0 ⟨⟨b1, b2, b3, b4, b5⟩, rfl, b6⟩
    have b1 : -12000 ≤ lo ∧ lo ≤ hi' ∧ hi' ≤ 12000 := b1
    have b2 : k ≠ 2 → lo ≤ 0 ∧ 0 ≤ hi' := b2
    have b6 : k ≠ 1 → ∀ j', j' < m → lo ≤ V j' i ∧ V j' i ≤ hi' := b6
    have b4 : k ≠ 1 → ∀ i', i' < i → ∀ j, j < m → lo ≤ V j i' ∧ V j i' ≤ hi' := b4
    have b5 : k = 1 → ∀ i', i' < i → q_sum V i' m ≤ hi' := b5
    have hs := sum_le hh hi m (by omega)
    simp only
    rw [rj_step, if_neg (by simp), W_nat (by omega), bmax]
    by_cases hk : k = 1
    · rw [if_pos (by simp [hk])]
      refine ⟨lo, max hi' (q_sum V i m), ⟨by omega, by omega, b3, fun h1 => absurd hk h1, fun _ i' hi1 => ?_⟩, rfl⟩
      by_cases e : i' = i
      · subst e; omega
      · have := b5 hk i' (by omega); omega
    · rw [if_neg (by simp [hk])]
      refine ⟨lo, hi', ⟨b1, b2, b3, fun h1 i' hi1 j hj => ?_, fun h1 => absurd h1 hk⟩, rfl⟩
      by_cases e : i' = i
      · subst e; exact b6 h1 j hj
      · exact b4 h1 i' (by omega) j hj
theorem rg_ex (n m : Nat) (k : Int) (nr : Nat → Nat → PS) (V : Nat → Nat → Int) (h : q_ok k n m V) :
    ∃ lo hi, callF prog gl noD 300 O6 0 18 [.agg [.int .i64 k, .view n 1 nr, .view m 1 (q_sr n V)]] [] = some (.tup [i64 lo, i64 hi, i64 0], []) ∧ RgO k m V n lo hi := by
  have go : ∀ lo0 hi0, RgO k m V 0 lo0 hi0 → ∃ lo hi, rounds (bRg 300) (kRg 300) 300 (hRg k n m nr (q_sr n V) lo0 hi0 (0 : Nat)) (bCk k n m nr (q_sr n V)) = some (.tup [i64 lo, i64 hi, i64 0], []) ∧ RgO k m V n lo hi := by
    intro lo0 hi0 hO
    have hh := h
    obtain ⟨⟨k1, k2⟩, ⟨n1, n2⟩, ⟨m1, m2⟩, hV⟩ := h
    refine loop_ex (σ := Int × Int) (fun i s => hRg k n m nr (q_sr n V) s.1 s.2 i) (fun _ _ => bCk k n m nr (q_sr n V)) (fun i s => RgO k m V i s.1 s.2) n (Z := fun x => ∃ lo hi, x = some (PV.tup [i64 lo, i64 hi, i64 0], []) ∧ RgO k m V n lo hi) ?_ ?_ 300 0 (lo0, hi0) (by omega) (by omega) hO
    · rintro i ⟨lo, hi'⟩ mm hi hO
      obtain ⟨lo1, hi1, q1, q2⟩ := rj_loop 300 n m mm 300 i k nr V lo hi' hh hi (by omega) hO
      refine ⟨(lo1, hi1), q1, ?_⟩
      simp only
      rw [rg_step, if_pos (by simp; omega)]
      exact q2
    · rintro ⟨lo, hi'⟩ mm hO
      simp only
      rw [rg_step, if_neg (by simp)]
      exact ⟨_, _, rfl, hO⟩
  have hh := h
  obtain ⟨⟨k1, k2⟩, ⟨n1, n2⟩, ⟨m1, m2⟩, hV⟩ := h
  rw [rg_pre, if_pos (q_dec_iff.2 ⟨⟨V, rfl⟩, by rw [V_sr]; exact hh⟩)]
  by_cases hk : k = 2
  · have v0 := hV 0 0 (by omega) (by omega)
    rw [if_pos (by simp [hk]), chk_true (by simp; omega), chk_true (by simp; omega), chk_true (by simp; omega), chk_true (by simp; omega)]
    exact go _ _ ⟨by omega, by omega, by omega, fun _ i' hi => absurd hi (by omega), fun _ i' hi => absurd hi (by omega)⟩
  · rw [if_neg (by simp [hk])]
    exact go _ _ ⟨by omega, by omega, by omega, fun _ i' hi => absurd hi (by omega), fun _ i' hi => absurd hi (by omega)⟩
/-- What Range answers. -/
noncomputable def q_rg (n m : Nat) (k : Int) (nr sr : Nat → Nat → PS) : Int × Int := Classical.epsilon fun p => callF prog gl noD 300 O6 0 18 [.agg [.int .i64 k, .view n 1 nr, .view m 1 sr]] [] = some (.tup [i64 p.1, i64 p.2, i64 0], []) ∧ RgO k m (q_V sr) n p.1 p.2
theorem rg_spec {n m : Nat} {k : Int} {nr sr : Nat → Nat → PS} (h : q_isS n sr ∧ q_ok k n m (q_V sr)) : callF prog gl noD 300 O6 0 18 [.agg [.int .i64 k, .view n 1 nr, .view m 1 sr]] [] = some (.tup [i64 (q_rg n m k nr sr).1, i64 (q_rg n m k nr sr).2, i64 0], []) ∧ RgO k m (q_V sr) n (q_rg n m k nr sr).1 (q_rg n m k nr sr).2 := by
  obtain ⟨lo, hi, h1, h2⟩ := rg_ex n m k nr (q_V sr) h.2
  rw [← isS_V h.1] at h1
  exact Classical.epsilon_spec (p := fun p : Int × Int => callF prog gl noD 300 O6 0 18 [.agg [.int .i64 k, .view n 1 nr, .view m 1 sr]] [] = some (.tup [i64 p.1, i64 p.2, i64 0], []) ∧ RgO k m (q_V sr) n p.1 p.2) ⟨(lo, hi), h1, h2⟩
/-- The least and the greatest value that Range tells. -/
noncomputable def q_lo (n m : Nat) (k : Int) (nr sr : Nat → Nat → PS) : Int := (q_rg n m k nr sr).1
noncomputable def q_hi (n m : Nat) (k : Int) (nr sr : Nat → Nat → PS) : Int := (q_rg n m k nr sr).2
noncomputable def aRg : Nat → List PV → Heap → Option (Bool × PV × Heap)
  | 0, [.agg [.int .i64 k, .view n 1 nr, .view m 1 sr]], [] => some (q_dec (q_isS n sr ∧ q_ok k n m (q_V sr)), PV.tup [i64 (q_lo n m k nr sr), i64 (q_hi n m k nr sr), i64 0], [])
  | _, _, _ => none
noncomputable def O7 : Orac := addM 18 aRg O6
theorem sO7 : Sound prog gl O7 := add1 sO6 (fun nb vs H v H' h => by
  unfold aRg at h
  split at h
  · rename_i k n nr m sr
    obtain ⟨h1, h2, h3⟩ : q_dec (q_isS n sr ∧ q_ok k n m (q_V sr)) = true ∧ .tup [i64 (q_lo n m k nr sr), i64 (q_hi n m k nr sr), i64 0] = v ∧ [] = H' := by simpa using h
    subst h2 h3
    exact ⟨300, (rg_spec (q_dec_iff.1 h1)).1⟩
  · cases h)
end Go.Proofs.Ytfemkfodakfcmaa.Sh