import Derived.Test.YtfemkfodakfcmaaChA
namespace Go.Proofs.Ytfemkfodakfcmaa.Sh
open Go Go.RowKit Go.Proofs.Ytfemkfodakfcmaa.Ev Go.Proofs.Try
set_option maxRecDepth 100000
set_option linter.unusedVariables false
/-! charts: rows of rows of numbers -/
def q_ir (f : Nat → Int) : Nat → Nat → PS := fun k _ => .int .i64 (f k)
def q_sr (n : Nat) (V : Nat → Nat → Int) : Nat → Nat → PS := fun i _ => .view n 1 (q_ir (V i))
/-- The number in a row of rows. -/
def q_V (row : Nat → Nat → PS) : Nat → Nat → Int := fun i k => match row i 0 with
  | .view _ _ r => (match r k 0 with | .int _ x => x | _ => 0)
  | _ => 0
def q_isS (n : Nat) (row : Nat → Nat → PS) : Prop := ∃ V, row = q_sr n V
theorem V_sr {n : Nat} {V : Nat → Nat → Int} : q_V (q_sr n V) = V := rfl
theorem isS_V {n : Nat} {row : Nat → Nat → PS} (h : q_isS n row) : row = q_sr n (q_V row) := by obtain ⟨V, rfl⟩ := h; rfl
theorem W_nat {i : Nat} (h : i < 9223372036854775807) : W ((i : Int) + 1) = ((i + 1 : Nat) : Int) := by rw [W_id (by omega) (by omega)]; omega
/-! chart.Check -/
abbrev pCk : List Bool := [true, true, true, true, true, false, true, false]
abbrev hCk (k : Int) (n m : Nat) (nr sr : Nat → Nat → PS) (i : Int) : En := [(47, none, i64 i), (46, none, i64 m), (45, none, .one (.view m 1 sr)), (2, none, i64 0), (1, none, .one (.ptr 1 0)), (0, none, .agg [.int .i64 k, .view n 1 nr, .view m 1 sr])]
abbrev bCk (k : Int) (n m : Nat) (nr sr : Nat → Nat → PS) : Heap := [(1, .box [.int .i64 k, .view n 1 nr, .view m 1 sr])]
theorem ck_pre (fl n m : Nat) (k : Int) (nr sr : Nat → Nat → PS) : callF prog gl noD fl O5 0 43 [.agg [.int .i64 k, .view n 1 nr, .view m 1 sr]] [] = (if (bif decide (k < (0 : Int)) then true else decide (k > (3 : Int))) = true then (some ((i64 ((8 : Int)), []))) else (if (bif (↑n : Int) == (0 : Int) then true else (↑m : Int) == (0 : Int)) = true then (some ((i64 ((7 : Int)), []))) else (if (bif decide ((↑n : Int) > (200 : Int)) then true else decide ((↑m : Int) > (12 : Int))) = true then (some ((i64 ((3 : Int)), []))) else (if (bif k == (3 : Int) then decide ((↑m : Int) > (1 : Int)) else false) = true then (some ((i64 ((4 : Int)), []))) else (rounds (bodyAt prog gl O5 noD f43 1 0 fl pCk) (kAt prog gl O5 noD f43 1 0 fl pCk) fl ([((47 : Nat), none, i64 ((0 : Int))), ((46 : Nat), none, i64 ((↑m : Int))), ((45 : Nat), none, PV.one (PS.view m (1 : Nat) sr)), ((2 : Nat), none, i64 ((0 : Int))), ((1 : Nat), none, PV.one (PS.ptr (1 : Nat) (0 : Nat))), ((0 : Nat), none, PV.agg [PS.int IntKind.i64 k, PS.view n (1 : Nat) nr, PS.view m (1 : Nat) sr])]) ([((1 : Nat), OB.box [PS.int IntKind.i64 k, PS.view n (1 : Nat) nr, PS.view m (1 : Nat) sr])])))))) := by kernel_rfl
abbrev rCj : List Bool := [true, true, false, false, true, true, true, false]
abbrev pCj : List Bool := pCk ++ (false :: rCj)
noncomputable def kCj (fl n m mm : Nat) (k : Int) (nr : Nat → Nat → PS) (V : Nat → Nat → Int) (i : Int) (K : Exit → En → Heap → Option (PV × Heap)) : Exit → En → Heap → Option (PV × Heap) := kontAt prog gl O5 noD (liveF f43) [] (0 + nOf f43 1 + 1) 0 (nOf f43 1) fl rCj (codeAt (pCk ++ [false]) (bodyOf f43)) (kRound (bodyAt prog gl O5 noD f43 1 0 fl pCk) K mm (hCk k n m nr (q_sr n V) i) (bCk k n m nr (q_sr n V)))
abbrev hCj (k : Int) (n m : Nat) (nr : Nat → Nat → PS) (V : Nat → Nat → Int) (i : Nat) (j : Int) : En := [(59, none, i64 j), (58, none, i64 n), (57, none, .one (.view n 1 (q_ir (V i)))), (4, none, .one (.view n 1 (q_ir (V i))))] ++ hCk k n m nr (q_sr n V) i
theorem ck_step (fl n m mm : Nat) (k : Int) (nr : Nat → Nat → PS) (V : Nat → Nat → Int) (i : Int) (K : Exit → En → Heap → Option (PV × Heap)) : rounds (bodyAt prog gl O5 noD f43 1 0 fl pCk) K (mm + 1) (hCk k n m nr (q_sr n V) i) (bCk k n m nr (q_sr n V)) = (if (decide (i < (↑m : Int))) = true then (chk true (decide ((0 : Int) ≤ i) && decide (i < (↑m : Int))) (if ((↑n : Int) != (↑n : Int)) = true then (K (Exit.ret) ([((2 : Nat), none, i64 ((14 : Int))), ((4 : Nat), none, PV.one (PS.view n (1 : Nat) (q_ir (V i.toNat)))), ((47 : Nat), none, i64 (i)), ((46 : Nat), none, i64 ((↑m : Int))), ((45 : Nat), none, PV.one (PS.view m (1 : Nat) (q_sr n V))), ((1 : Nat), none, PV.one (PS.ptr (1 : Nat) (0 : Nat))), ((0 : Nat), none, PV.agg [PS.int IntKind.i64 k, PS.view n (1 : Nat) nr, PS.view m (1 : Nat) (q_sr n V)])]) ([((1 : Nat), OB.box [PS.int IntKind.i64 k, PS.view n (1 : Nat) nr, PS.view m (1 : Nat) (q_sr n V)])])) else (rounds (bodyAt prog gl O5 noD f43 1 0 fl pCj) (kCj fl n m mm k nr V i K) fl ([((59 : Nat), none, i64 ((0 : Int))), ((58 : Nat), none, i64 ((↑n : Int))), ((57 : Nat), none, PV.one (PS.view n (1 : Nat) (q_ir (V i.toNat)))), ((4 : Nat), none, PV.one (PS.view n (1 : Nat) (q_ir (V i.toNat)))), ((47 : Nat), none, i64 (i)), ((46 : Nat), none, i64 ((↑m : Int))), ((45 : Nat), none, PV.one (PS.view m (1 : Nat) (q_sr n V))), ((2 : Nat), none, i64 ((0 : Int))), ((1 : Nat), none, PV.one (PS.ptr (1 : Nat) (0 : Nat))), ((0 : Nat), none, PV.agg [PS.int IntKind.i64 k, PS.view n (1 : Nat) nr, PS.view m (1 : Nat) (q_sr n V)])]) ([((1 : Nat), OB.box [PS.int IntKind.i64 k, PS.view n (1 : Nat) nr, PS.view m (1 : Nat) (q_sr n V)])])))) else (K (Exit.exit (0 : Nat)) ([((47 : Nat), none, i64 (i)), ((46 : Nat), none, i64 ((↑m : Int))), ((45 : Nat), none, PV.one (PS.view m (1 : Nat) (q_sr n V))), ((2 : Nat), none, i64 ((0 : Int))), ((1 : Nat), none, PV.one (PS.ptr (1 : Nat) (0 : Nat))), ((0 : Nat), none, PV.agg [PS.int IntKind.i64 k, PS.view n (1 : Nat) nr, PS.view m (1 : Nat) (q_sr n V)])]) ([((1 : Nat), OB.box [PS.int IntKind.i64 k, PS.view n (1 : Nat) nr, PS.view m (1 : Nat) (q_sr n V)])]))) := by kernel_rfl
theorem cj_step (fl n m mm m0 i : Nat) (k : Int) (nr : Nat → Nat → PS) (V : Nat → Nat → Int) (j : Int) (K : Exit → En → Heap → Option (PV × Heap)) : rounds (bodyAt prog gl O5 noD f43 1 0 fl pCj) (kCj fl n m mm k nr V i K) (m0 + 1) (hCj k n m nr V i j) (bCk k n m nr (q_sr n V)) = (if (decide (j < (↑n : Int))) = true then (chk true (decide ((0 : Int) ≤ j) && decide (j < (↑n : Int))) (if (bif bif decide (V i j.toNat < (-83333333333 : Int)) then true else decide (V i j.toNat > (83333333333 : Int)) then true else bif decide (V i j.toNat < (0 : Int)) then bif k == (3 : Int) then true else k == (1 : Int) else false) = true then (K (Exit.ret) ([((2 : Nat), none, i64 ((2 : Int))), ((6 : Nat), none, i64 ((V i j.toNat))), ((59 : Nat), none, i64 (j)), ((58 : Nat), none, i64 ((↑n : Int))), ((57 : Nat), none, PV.one (PS.view n (1 : Nat) (q_ir (V i)))), ((4 : Nat), none, PV.one (PS.view n (1 : Nat) (q_ir (V i)))), ((47 : Nat), none, i64 ((↑i : Int))), ((46 : Nat), none, i64 ((↑m : Int))), ((45 : Nat), none, PV.one (PS.view m (1 : Nat) (q_sr n V))), ((1 : Nat), none, PV.one (PS.ptr (1 : Nat) (0 : Nat))), ((0 : Nat), none, PV.agg [PS.int IntKind.i64 k, PS.view n (1 : Nat) nr, PS.view m (1 : Nat) (q_sr n V)])]) ([((1 : Nat), OB.box [PS.int IntKind.i64 k, PS.view n (1 : Nat) nr, PS.view m (1 : Nat) (q_sr n V)])])) else (rounds (bodyAt prog gl O5 noD f43 1 0 fl pCj) (kCj fl n m mm k nr V i K) m0 ([((59 : Nat), none, i64 ((W (j + (1 : Int))))), ((58 : Nat), none, i64 ((↑n : Int))), ((57 : Nat), none, PV.one (PS.view n (1 : Nat) (q_ir (V i)))), ((4 : Nat), none, PV.one (PS.view n (1 : Nat) (q_ir (V i)))), ((47 : Nat), none, i64 ((↑i : Int))), ((46 : Nat), none, i64 ((↑m : Int))), ((45 : Nat), none, PV.one (PS.view m (1 : Nat) (q_sr n V))), ((2 : Nat), none, i64 ((0 : Int))), ((1 : Nat), none, PV.one (PS.ptr (1 : Nat) (0 : Nat))), ((0 : Nat), none, PV.agg [PS.int IntKind.i64 k, PS.view n (1 : Nat) nr, PS.view m (1 : Nat) (q_sr n V)])]) ([((1 : Nat), OB.box [PS.int IntKind.i64 k, PS.view n (1 : Nat) nr, PS.view m (1 : Nat) (q_sr n V)])])))) else (rounds (bodyAt prog gl O5 noD f43 1 0 fl pCk) K mm ([((47 : Nat), none, i64 ((W ((↑i : Int) + (1 : Int))))), ((46 : Nat), none, i64 ((↑m : Int))), ((45 : Nat), none, PV.one (PS.view m (1 : Nat) (q_sr n V))), ((2 : Nat), none, i64 ((0 : Int))), ((1 : Nat), none, PV.one (PS.ptr (1 : Nat) (0 : Nat))), ((0 : Nat), none, PV.agg [PS.int IntKind.i64 k, PS.view n (1 : Nat) nr, PS.view m (1 : Nat) (q_sr n V)])]) ([((1 : Nat), OB.box [PS.int IntKind.i64 k, PS.view n (1 : Nat) nr, PS.view m (1 : Nat) (q_sr n V)])]))) := by kernel_rfl
/-- A chart that Check lets pass, with small values. -/
def q_ok (k : Int) (n m : Nat) (V : Nat → Nat → Int) : Prop := (0 ≤ k ∧ k ≤ 2) ∧ (1 ≤ n ∧ n ≤ 200) ∧ (1 ≤ m ∧ m ≤ 12) ∧ ∀ i j, i < m → j < n → (-1000 ≤ V i j ∧ V i j ≤ 1000) ∧ (k = 1 → 0 ≤ V i j)
theorem cj_loop (fl n m mm m0 i : Nat) (k : Int) (nr : Nat → Nat → PS) (V : Nat → Nat → Int) (K : Exit → En → Heap → Option (PV × Heap)) (h : q_ok k n m V) (hi : i < m) (h0 : n < m0) :
    rounds (bodyAt prog gl O5 noD f43 1 0 fl pCj) (kCj fl n m mm k nr V i K) m0 (hCj k n m nr V i (0 : Nat)) (bCk k n m nr (q_sr n V)) = rounds (bodyAt prog gl O5 noD f43 1 0 fl pCk) K mm (hCk k n m nr (q_sr n V) ((i + 1 : Nat) : Int)) (bCk k n m nr (q_sr n V)) := by
  obtain ⟨⟨k1, k2⟩, ⟨n1, n2⟩, ⟨m1, m2⟩, hV⟩ := h
  refine loop_ex (σ := Unit) (fun j _ => hCj k n m nr V i j) (fun _ _ => bCk k n m nr (q_sr n V)) (fun _ _ => True) n (Z := fun x => x = rounds (bodyAt prog gl O5 noD f43 1 0 fl pCk) K mm (hCk k n m nr (q_sr n V) ((i + 1 : Nat) : Int)) (bCk k n m nr (q_sr n V))) ?_ ?_ m0 0 () (by omega) (by omega) trivial
  · intro j _ m0 hj _
    refine ⟨(), trivial, ?_⟩
    obtain ⟨⟨v1, v2⟩, v3⟩ := hV i j hi hj
    rw [cj_step, if_pos (by simp; omega), chk_true (by simp; omega), Int.toNat_natCast, if_neg (by
      rw [decide_eq_false (by omega), decide_eq_false (by omega)]
      by_cases hn : V i j < 0
      · have h3 : k ≠ 1 := fun e => by have := v3 e; omega
        have h4 : k ≠ 3 := by omega
        simp [h3, h4]
      · simp [hn]), W_nat (by omega)]
    rfl
  · intro _ m0 _
    rw [cj_step, if_neg (by simp), W_nat (by omega)]
theorem ck_eq (fl n m : Nat) (k : Int) (nr : Nat → Nat → PS) (V : Nat → Nat → Int) (h : q_ok k n m V) (hf : 300 ≤ fl) : callF prog gl noD fl O5 0 43 [.agg [.int .i64 k, .view n 1 nr, .view m 1 (q_sr n V)]] [] = some (i64 0, []) := by
  have h' := h
  obtain ⟨⟨k1, k2⟩, ⟨n1, n2⟩, ⟨m1, m2⟩, hV⟩ := h
  rw [ck_pre, if_neg (by simp; omega), if_neg (by simp; omega), if_neg (by simp; omega), if_neg (by
    have h4 : k ≠ 3 := by omega
    simp [h4])]
  refine loop_ex (σ := Unit) (fun i _ => hCk k n m nr (q_sr n V) i) (fun _ _ => bCk k n m nr (q_sr n V)) (fun _ _ => True) m (Z := fun x => x = some (i64 0, [])) ?_ ?_ fl 0 () (by omega) (by omega) trivial
  · intro i _ mm hi _
    refine ⟨(), trivial, ?_⟩
    rw [ck_step, if_pos (by simp; omega), chk_true (by simp; omega), Int.toNat_natCast, if_neg (by simp)]
    exact cj_loop fl n m mm fl i k nr V _ h' hi (by omega)
  · intro _ mm _
    rw [ck_step, if_neg (by simp)]
    kernel_rfl
noncomputable def aCk : Nat → List PV → Heap → Option (Bool × PV × Heap)
  | 0, [.agg [.int .i64 k, .view n 1 _, .view m 1 sr]], [] => some (q_dec (q_isS n sr ∧ q_ok k n m (q_V sr)), i64 0, [])
  | _, _, _ => none
noncomputable def O6 : Orac := addM 43 aCk O5
theorem sO6 : Sound prog gl O6 := add1 sO5 (fun nb vs H v H' h => by
  unfold aCk at h
  split at h
  · rename_i k n nr m sr
    obtain ⟨h1, h2, h3⟩ : q_dec (q_isS n sr ∧ q_ok k n m (q_V sr)) = true ∧ i64 0 = v ∧ [] = H' := by simpa using h
    subst h2 h3
    obtain ⟨h4, h5⟩ := q_dec_iff.1 h1
    have := ck_eq 300 n m k nr (q_V sr) h5 (by omega)
    rw [← isS_V h4] at this
    exact ⟨300, this⟩
  · cases h)
end Go.Proofs.Ytfemkfodakfcmaa.Sh
