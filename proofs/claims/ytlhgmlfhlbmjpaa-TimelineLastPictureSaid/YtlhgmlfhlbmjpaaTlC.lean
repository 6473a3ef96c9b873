import Derived.Test.YtlhgmlfhlbmjpaaTlB
namespace Go.Proofs.Ytlhgmlfhlbmjpaa.Sh
open Go Go.RowKit Go.Proofs.Ytlhgmlfhlbmjpaa.Ev Go.Proofs.Try
set_option maxRecDepth 100000
set_option linter.unusedVariables false
/-! Clicks -/
abbrev pCl : List Bool := [true, true, true, false, true, false]
abbrev rCl : List Bool := [true, true, false, false, true, false, false]
abbrev pCl2 : List Bool := pCl ++ (false :: rCl)
noncomputable abbrev yCl (fl : Nat) (p : List Bool) : En → Heap → (Exit → En → Heap → Option (PV × Heap)) → Option (PV × Heap) := bodyAt prog gl O6 noD f11 1 0 fl p
noncomputable abbrev kCl (fl : Nat) := kAt prog gl O6 noD f11 1 0 fl pCl
abbrev hCl (n : Nat) (A : Nat → Nat → PS) (i : Int) : En := [(17, none, i64 i), (16, none, i64 n), (15, none, .one (.os 15)), (5, none, .one (.os 13)), (4, none, i64 0), (3, none, i64 0), (2, none, .one .nils), (0, none, .one (.view n 7 A))]
abbrev bCl (n l : Nat) (T B : Nat → Nat → Int) (J : Nat → Nat → PS) : Heap := [(15, .rows 44 3 n (q_row 3 T)), (13, .rows 3 1 l (rj 1 B J))]
abbrev hCl2 (n : Nat) (A : Nat → Nat → PS) (i : Int) : En := (7, none, .one (.ptr 7 0)) :: hCl n A i
abbrev xCl (a b c : Int) : Nat × OB := (7, .box [.int .i64 a, .int .i64 b, .int .i64 c])
noncomputable def kCl2 (fl mm n : Nat) (A : Nat → Nat → PS) (i : Int) (H : Heap) : Exit → En → Heap → Option (PV × Heap) := kontAt prog gl O6 noD (liveF f11) [] (0 + nOf f11 1 + 1) 0 (nOf f11 1) fl rCl (codeAt (pCl ++ [false]) (bodyOf f11)) (kRound (yCl fl pCl) (kCl fl) mm (hCl n A i) H)
theorem cl_pre (fl n : Nat) (g : Nat → Nat → Int) (J : Nat → Nat → PS) : callF prog gl noD fl O6 0 11 [.one (.view n 7 (rj 7 g J))] [] = (if (q_dec (q_isJ (7 : Nat) (rj (7 : Nat) g J) ∧ q_effP n (q_num n (7 : Nat) (rj (7 : Nat) g J)))) = true then (if (q_dec ((0 : Nat) < n ∧ q_isJ (7 : Nat) (rj (7 : Nat) g J) ∧ q_effP n (q_num n (7 : Nat) (rj (7 : Nat) g J)))) = true then (rounds (yCl fl pCl) (kCl fl) fl ([((17 : Nat), none, i64 ((0 : Int))), ((16 : Nat), none, i64 ((↑n : Int))), ((15 : Nat), none, PV.one (PS.os (15 : Nat))), ((5 : Nat), none, PV.one (PS.os (13 : Nat))), ((4 : Nat), none, i64 ((0 : Int))), ((3 : Nat), none, i64 ((0 : Int))), ((2 : Nat), none, PV.one PS.nils), ((0 : Nat), none, PV.one (PS.view n (7 : Nat) (rj (7 : Nat) g J)))]) ([((15 : Nat), OB.rows (44 : Nat) (3 : Nat) n (q_row (3 : Nat) (q_tm (q_num n (7 : Nat) (rj (7 : Nat) g J))))), ((13 : Nat), OB.rows (3 : Nat) (1 : Nat) (1 : Nat) (litRow (1 : Nat) [PS.int IntKind.i64 (0 : Int)]))])) else none) else none) := by kernel_rfl
theorem cl_a (fl mm n l : Nat) (A J : Nat → Nat → PS) (T B : Nat → Nat → Int) (i : Int) : rounds (yCl fl pCl) (kCl fl) (mm + 1) (hCl n A i) (bCl n l T B J) = (if (decide (i < (↑n : Int))) = true then (chk true (decide ((0 : Int) ≤ i) && decide (i < (↑n : Int))) (chk true (decide (i.toNat < n) && true) (rounds (yCl fl pCl2) (kCl2 fl mm n A i (bCl n l T B J)) fl ([((7 : Nat), none, PV.one (PS.ptr (7 : Nat) (0 : Nat))), ((17 : Nat), none, i64 (i)), ((16 : Nat), none, i64 ((↑n : Int))), ((15 : Nat), none, PV.one (PS.os (15 : Nat))), ((5 : Nat), none, PV.one (PS.os (13 : Nat))), ((4 : Nat), none, i64 ((0 : Int))), ((3 : Nat), none, i64 ((0 : Int))), ((2 : Nat), none, PV.one PS.nils), ((0 : Nat), none, PV.one (PS.view n (7 : Nat) A))]) ([((7 : Nat), OB.box [PS.int IntKind.i64 (T i.toNat (0 : Nat)), PS.int IntKind.i64 (T i.toNat (1 : Nat)), PS.int IntKind.i64 (T i.toNat (2 : Nat))]), ((15 : Nat), OB.rows (44 : Nat) (3 : Nat) n (q_row (3 : Nat) T)), ((13 : Nat), OB.rows (3 : Nat) (1 : Nat) l (rj (1 : Nat) B J))])))) else (some ((PV.tup [PV.one (PS.os (0 : Nat)), i64 ((0 : Int))], [((0 : Nat), OB.rows (3 : Nat) (1 : Nat) l (rj (1 : Nat) B J))])))) := by kernel_rfl
theorem cl_j (fl mm m1 n l l0 : Nat) (A J J0 : Nat → Nat → PS) (T B B0 : Nat → Nat → Int) (i a b c : Int) : rounds (yCl fl pCl2) (kCl2 fl mm n A i (bCl n l0 T B0 J0)) (m1 + 1) (hCl2 n A i) (xCl a b c :: bCl n l T B J) = (if (decide ((↑l : Int) ≤ a)) = true then (if (true && (decide (l + (1 : Nat) ≤ (9223372036854775807 : Nat)) && decide ((l + (1 : Nat)) * (8 : Nat) ≤ (140737488355328 : Nat)))) = true then (rounds (yCl fl pCl2) (kCl2 fl mm n A i (bCl n l0 T B0 J0)) m1 ([((7 : Nat), none, PV.one (PS.ptr (7 : Nat) (0 : Nat))), ((17 : Nat), none, i64 (i)), ((16 : Nat), none, i64 ((↑n : Int))), ((15 : Nat), none, PV.one (PS.os (15 : Nat))), ((5 : Nat), none, PV.one (PS.os (13 : Nat))), ((4 : Nat), none, i64 ((0 : Int))), ((3 : Nat), none, i64 ((0 : Int))), ((2 : Nat), none, PV.one PS.nils), ((0 : Nat), none, PV.one (PS.view n (7 : Nat) A))]) ([((7 : Nat), OB.box [PS.int IntKind.i64 a, PS.int IntKind.i64 b, PS.int IntKind.i64 c]), ((15 : Nat), OB.rows (44 : Nat) (3 : Nat) n (q_row (3 : Nat) T)), ((13 : Nat), OB.rows (3 : Nat) (1 : Nat) (l + (1 : Nat)) (appRow l (rj (1 : Nat) B J) (litRow (1 : Nat) [PS.int IntKind.i64 (0 : Int)])))])) else none) else (chk true (decide ((0 : Int) ≤ a) && decide (a < (↑l : Int))) (chk true (decide (a.toNat < l) && true) (chk true (decide ((0 : Int) ≤ a) && decide (a < (↑l : Int))) (if (decide (a.toNat < l)) = true then (rounds (yCl fl pCl) (kCl fl) mm ([((17 : Nat), none, i64 ((W (i + (1 : Int))))), ((16 : Nat), none, i64 ((↑n : Int))), ((15 : Nat), none, PV.one (PS.os (15 : Nat))), ((5 : Nat), none, PV.one (PS.os (13 : Nat))), ((4 : Nat), none, i64 ((0 : Int))), ((3 : Nat), none, i64 ((0 : Int))), ((2 : Nat), none, PV.one PS.nils), ((0 : Nat), none, PV.one (PS.view n (7 : Nat) A))]) ([((15 : Nat), OB.rows (44 : Nat) (3 : Nat) n (q_row (3 : Nat) T)), ((13 : Nat), OB.rows (3 : Nat) (1 : Nat) l (putRow (rj (1 : Nat) B J) a.toNat (0 : Nat) [PS.int IntKind.i64 (bif decide (c > B a.toNat (0 : Nat)) then c else B a.toNat (0 : Nat))]))])) else none))))) := by kernel_rfl
/-- The times of valid effects. -/
def TimeP (n : Nat) (T : Nat → Nat → Int) : Prop := n ≤ 12 ∧ ∀ i, i < n → (0 ≤ T i 0 ∧ T i 0 ≤ i + 1) ∧ 0 ≤ T i 1 ∧ T i 1 ≤ T i 2 ∧ T i 2 ≤ 13000
theorem tm_P {n : Nat} {g : Nat → Nat → Int} (h : q_effP n g) : TimeP n (q_tm g) := by
  refine ⟨h.1, fun i hi => ?_⟩
  have hn := h.1
  obtain ⟨b1, b2, b3⟩ := ts_le h (i + 1) (by omega)
  obtain ⟨_, _, _, a3, a4, _⟩ := h.2 i hi
  show (0 ≤ (q_ts g (i + 1)).1 ∧ (q_ts g (i + 1)).1 ≤ i + 1) ∧ 0 ≤ (q_ts g (i + 1)).2.1 + g i 3 ∧ (q_ts g (i + 1)).2.1 + g i 3 ≤ (q_ts g (i + 1)).2.1 + g i 3 + g i 4 ∧ (q_ts g (i + 1)).2.1 + g i 3 + g i 4 ≤ 13000
  omega
/-- What the clicks of the first effects are. -/
def ClQ (T : Nat → Nat → Int) (i l : Nat) (B : Nat → Nat → Int) : Prop := 1 ≤ l ∧ (∀ r, r < l → 0 ≤ B r 0 ∧ B r 0 ≤ 20000) ∧ ∀ i', i' < i → (T i' 0).toNat < l ∧ T i' 2 ≤ B (T i' 0).toNat 0
theorem cl_in (fl mm n l0 : Nat) (A J0 : Nat → Nat → PS) (T B0 : Nat → Nat → Int) (i : Nat) (hT : TimeP n T) (hi : i < n) : ∀ (m1 l : Nat) (B : Nat → Nat → Int) (J : Nat → Nat → PS), ClQ T i l B → l ≤ i + 2 → (T i 0).toNat + 2 ≤ l + m1 → 0 < m1 →
    ∃ l' B' J', rounds (yCl fl pCl2) (kCl2 fl mm n A i (bCl n l0 T B0 J0)) m1 (hCl2 n A i) (xCl (T i 0) (T i 1) (T i 2) :: bCl n l T B J) = rounds (yCl fl pCl) (kCl fl) mm (hCl n A ((i + 1 : Nat) : Int)) (bCl n l' T B' J') ∧ ClQ T (i + 1) l' B' ∧ l' ≤ i + 2 := by
  obtain ⟨hn, hT⟩ := hT
  obtain ⟨⟨t1, t2⟩, t3, t4, t5⟩ := hT i hi
  intro m1
  induction m1 with
  | zero => intro l B J _ _ _ h; omega
  | succ m1 ih =>
    intro l B J hQ hl hm _
    obtain ⟨q1, q2, q3⟩ := hQ
    rw [cl_j]
    by_cases hle : (l : Int) ≤ T i 0
    · rw [if_pos (by simpa using hle), if_pos (by simp <;> omega)]
      obtain ⟨J', e⟩ := app_rj 1 l B J [0] rfl
      have e : appRow l (rj 1 B J) (litRow 1 [PS.int .i64 0]) = rj 1 (appB l B [0]) J' := e
      rw [e]
      refine ih (l + 1) (appB l B [0]) J' ⟨by omega, fun r hr => ?_, fun i' hi' => ?_⟩ (by omega) (by omega) (by omega)
      · unfold appB
        by_cases c : r < l
        · rw [if_pos c]; exact q2 r c
        · rw [if_neg c]; simp
      · obtain ⟨q4, q5⟩ := q3 i' hi'
        refine ⟨by omega, ?_⟩
        unfold appB
        rw [if_pos q4]; exact q5
    · have ha : (T i 0).toNat < l := by omega
      rw [if_neg (by simpa using hle), chk_true (by simp <;> omega), chk_true (by simp <;> omega), chk_true (by simp <;> omega), if_pos (by simpa using ha), bmax, put_rj 1 B J _ 0 _ (by omega), W_nat (by omega)]
      refine ⟨l, _, J, rfl, ⟨q1, fun r hr => ?_, fun i' hi' => ?_⟩, hl⟩
      · unfold putB
        split
        · have := q2 (T i 0).toNat ha; omega
        · exact q2 r hr
      · by_cases e : i' = i
        · subst e
          refine ⟨ha, ?_⟩
          unfold putB
          rw [if_pos ⟨rfl, rfl⟩]; omega
        · obtain ⟨q4, q5⟩ := q3 i' (by omega)
          refine ⟨q4, ?_⟩
          unfold putB
          split
          · rename_i hc; rw [hc.1] at q5; omega
          · exact q5
theorem cl_ex (n : Nat) (h0 : 0 < n) (g : Nat → Nat → Int) (J : Nat → Nat → PS) (h : q_effP n (q_num n 7 (rj 7 g J))) : ∃ l B J', callF prog gl noD 20 O6 0 11 [.one (.view n 7 (rj 7 g J))] [] = some (.tup [.one (.os 0), i64 0], [(0, .rows 3 1 l (rj 1 B J'))]) ∧ ClQ (q_tm (q_num n 7 (rj 7 g J))) n l B ∧ l ≤ n + 1 := by
  rw [cl_pre, if_pos (q_dec_iff.2 ⟨⟨g, J, rfl⟩, h⟩), if_pos (q_dec_iff.2 ⟨h0, ⟨g, J, rfl⟩, h⟩)]
  have hT := tm_P h
  generalize q_tm (q_num n 7 (rj 7 g J)) = T at *
  generalize rj 7 g J = A at *
  have hn := hT.1
  obtain ⟨J1, e⟩ := app_rj 1 0 (fun _ _ => 0) (fun _ _ => .nilp) [0] rfl
  have e1 : litRow 1 [PS.int .i64 0] = rj 1 (appB 0 (fun _ _ => 0) [0]) J1 := by
    rw [← e]
    funext i j
    rw [appRow_eq, if_neg (by omega)]; rfl
  rw [e1]
  refine loop_ex (body := yCl 20 pCl) (K := kCl 20) (σ := Nat × (Nat → Nat → Int) × (Nat → Nat → PS)) (fun i _ => hCl n A ((i : Nat) : Int)) (fun i s => bCl n s.1 T s.2.1 s.2.2) (fun i s => ClQ T i s.1 s.2.1 ∧ s.1 ≤ i + 1) n (Z := fun x => ∃ l B J', x = some (PV.tup [.one (.os 0), i64 0], [(0, OB.rows 3 1 l (rj 1 B J'))]) ∧ ClQ T n l B ∧ l ≤ n + 1) ?_ ?_ 20 0 (1, _, _) (by omega) (by omega) ⟨⟨by omega, fun r hr => ?_, fun i' hi => absurd hi (by omega)⟩, by show 1 ≤ 0 + 1; omega⟩
  · rintro i ⟨l, B, J⟩ mm hi ⟨hQ, hl⟩
    obtain ⟨t1, _⟩ := hT.2 i hi
    have hl : l ≤ i + 1 := hl
    obtain ⟨l', B', J', c1, c2, c3⟩ := cl_in 20 mm n l A J T B i hT hi 20 l B J hQ (by omega) (by omega) (by omega)
    refine ⟨(l', B', J'), ⟨c2, by show l' ≤ i + 1 + 1; omega⟩, ?_⟩
    rw [cl_a, if_pos (by simpa using hi), chk_true (by simp <;> omega), chk_true (by simpa using hi), Int.toNat_natCast]
    exact c1
  · rintro ⟨l, B, J⟩ mm ⟨hQ, hl⟩
    rw [cl_a, if_neg (by simp)]
    exact ⟨l, B, J, rfl, hQ, hl⟩
  · have hr : r < 1 := hr
    obtain rfl : r = 0 := by omega
    exact ⟨Int.le_refl 0, (by decide : (0 : Int) ≤ 20000)⟩
/-- What Clicks answers: how many, the times. -/
noncomputable def q_cl (n : Nat) (row : Nat → Nat → PS) : Nat × (Nat → Nat → Int) := Classical.epsilon fun p => ∃ J', callF prog gl noD 20 O6 0 11 [.one (.view n 7 row)] [] = some (.tup [.one (.os 0), i64 0], [(0, .rows 3 1 p.1 (rj 1 p.2 J'))]) ∧ ClQ (q_tm (q_num n 7 row)) n p.1 p.2 ∧ p.1 ≤ n + 1
noncomputable def q_cn (n : Nat) (row : Nat → Nat → PS) : Nat := (q_cl n row).1
noncomputable def q_cB (n : Nat) (row : Nat → Nat → PS) : Nat → Nat → Int := (q_cl n row).2
theorem cl_spec {n : Nat} {row : Nat → Nat → PS} (h : 0 < n ∧ q_isJ 7 row ∧ q_effP n (q_num n 7 row)) : ∃ J', callF prog gl noD 20 O6 0 11 [.one (.view n 7 row)] [] = some (.tup [.one (.os 0), i64 0], [(0, .rows 3 1 (q_cn n row) (rj 1 (q_cB n row) J'))]) ∧ ClQ (q_tm (q_num n 7 row)) n (q_cn n row) (q_cB n row) ∧ q_cn n row ≤ n + 1 := by
  obtain ⟨h0, ⟨g, J, rfl⟩, h2⟩ := h
  obtain ⟨l, B, J', e1, e2, e3⟩ := cl_ex n h0 g J h2
  exact Classical.epsilon_spec (p := fun p : Nat × (Nat → Nat → Int) => ∃ J', callF prog gl noD 20 O6 0 11 [.one (.view n 7 (rj 7 g J))] [] = some (.tup [.one (.os 0), i64 0], [(0, .rows 3 1 p.1 (rj 1 p.2 J'))]) ∧ ClQ (q_tm (q_num n 7 (rj 7 g J))) n p.1 p.2 ∧ p.1 ≤ n + 1) ⟨(l, B), J', e1, e2, e3⟩
noncomputable def aCl : Nat → List PV → Heap → Option (Bool × PV × Heap)
  | 0, [.one (.view n 7 row)], [] => some (q_dec (0 < n ∧ q_isJ 7 row ∧ q_effP n (q_num n 7 row)), .tup [.one (.os 0), i64 0], [(0, .rows 3 1 (q_cn n row) (q_row 1 (q_cB n row)))])
  | _, _, _ => none
noncomputable def O7 : Orac := addM 11 aCl O6
theorem sO7 : Sound prog gl O7 := add_ag (D := noD) sO6 sO6 mo (fun nb vs H v H' h => by
  unfold aCl at h
  split at h
  · rename_i n row
    obtain ⟨h1, h2, h3⟩ : q_dec (0 < n ∧ q_isJ 7 row ∧ q_effP n (q_num n 7 row)) = true ∧ .tup [.one (.os 0), i64 0] = v ∧ [(0, OB.rows 3 1 (q_cn n row) (q_row 1 (q_cB n row)))] = H' := by simpa using h
    subst h2 h3
    obtain ⟨J', e1, _⟩ := cl_spec (q_dec_iff.1 h1)
    exact ⟨20, _, _, e1, agV_refl _, .inr ⟨0, _, 1, _, _, _, [], rfl, rfl, rj_ag (fun i j hi hj => rfl), fun p hp => nomatch hp⟩⟩
  · cases h)
end Go.Proofs.Ytlhgmlfhlbmjpaa.Sh
