import Derived.Test.YtobfnncpjkeloaaPrC
namespace Go.Proofs.Ytobfnncpjkeloaa.Sh
open Go Go.RowKit Go.Proofs.Ytobfnncpjkeloaa.Ev Go.Proofs.Try
set_option maxRecDepth 1000000
set_option linter.unusedVariables false
/-! slices.Equal of whole numbers -/
abbrev pEq : List Bool := [true, true, false, true, false]
noncomputable abbrev yEq (fl : Nat) : En → Heap → (Exit → En → Heap → Option (PV × Heap)) → Option (PV × Heap) := bodyAt prog gl O5 noD f20 2 0 fl pEq
noncomputable abbrev kEq (fl : Nat) := kAt prog gl O5 noD f20 2 0 fl pEq
theorem eq_pre (fl n m : Nat) (r s : Nat → Nat → PS) : callF prog gl noD fl O5 0 20 [vi n r, vi m s] [] = (if ((↑n : Int) != (↑m : Int)) = true then (some ((PV.one (PS.bool false), []))) else (rounds (yEq fl) (kEq fl) fl ([((13 : Nat), none, i64 ((0 : Int))), ((12 : Nat), none, i64 ((↑n : Int))), ((4 : Nat), none, PV.one (PS.bool false)), ((0 : Nat), none, PV.one (PS.view n (1 : Nat) r)), ((1 : Nat), none, PV.one (PS.view m (1 : Nat) s))]) ([]))) := by kernel_rfl
abbrev hEq (n m : Nat) (r s : Nat → Nat → PS) (i : Int) : En := [(13, none, i64 i), (12, none, i64 n), (4, none, bl false), (0, none, vi n r), (1, none, vi m s)]
theorem eq_st (fl mm n m : Nat) (B B' : Nat → Nat → Int) (J J' : Nat → Nat → PS) (i : Int) : rounds (yEq fl) (kEq fl) (mm + 1) (hEq n m (rj 1 B J) (rj 1 B' J') i) [] = (if (decide (i < (↑n : Int))) = true then (chk true (decide ((0 : Int) ≤ i) && decide (i < (↑n : Int))) (chk true (decide ((0 : Int) ≤ i) && decide (i < (↑m : Int))) (if (B i.toNat (0 : Nat) != B' i.toNat (0 : Nat)) = true then (some ((PV.one (PS.bool false), []))) else (rounds (yEq fl) (kEq fl) mm ([((13 : Nat), none, i64 ((W (i + (1 : Int))))), ((12 : Nat), none, i64 ((↑n : Int))), ((4 : Nat), none, PV.one (PS.bool false)), ((0 : Nat), none, PV.one (PS.view n (1 : Nat) (rj (1 : Nat) B J))), ((1 : Nat), none, PV.one (PS.view m (1 : Nat) (rj (1 : Nat) B' J')))]) ([]))))) else (some ((PV.one (PS.bool true), [])))) := by kernel_rfl
theorem eq_nil  : callF prog gl noD 2 O5 0 20 [.one .nils, .one .nils] [] = (some ((PV.one (PS.bool true), []))) := by kernel_rfl
theorem so_nil  : callF prog gl noD 3 (upM (callF prog gl noD 3 (upM (callF prog gl noD 3 (upM (callF prog gl noD 3 noM)))))) 0 23 [.one .nils] [] = (some ((PV.tup [], []))) := by kernel_rfl
theorem od_nil0  : callF prog gl noD 2 O1 0 39 [.one .nils] [] = (some ((i64 ((0 : Int)), []))) := by kernel_rfl
theorem li_ext {n : Nat} {B B' : Nat → Nat → Int} {J J' : Nat → Nat → PS} : q_li n (rj 1 B J) = q_li n (rj 1 B' J') ↔ ∀ i, i < n → B i 0 = B' i 0 := by
  constructor
  · intro h i hi
    have h1 := li_rj (B := B) (J := J) hi
    rw [h, li_rj hi] at h1
    exact h1.symm
  · intro h
    apply List.ext_getElem?
    intro i
    by_cases hi : i < n
    · have h1 := li_rj (B := B) (J := J) hi
      have h2 := li_rj (B := B') (J := J') hi
      rw [List.getD_eq_getElem?_getD] at h1 h2
      rw [List.getElem?_eq_getElem (by rw [li_len]; exact hi)] at h1 ⊢
      rw [List.getElem?_eq_getElem (by rw [li_len]; exact hi)] at h2 ⊢
      simp only [Option.getD_some] at h1 h2
      rw [h1, h2, h i hi]
    · rw [List.getElem?_eq_none (by rw [li_len]; omega), List.getElem?_eq_none (by rw [li_len]; omega)]
theorem eq_loop (fl n : Nat) (hn : n ≤ 1000000) (B B' : Nat → Nat → Int) (J J' : Nat → Nat → PS) : ∀ (r i m : Nat), i + r = n → r < m → (∀ k, k < i → B k 0 = B' k 0) → rounds (yEq fl) (kEq fl) m (hEq n n (rj 1 B J) (rj 1 B' J') (i : Nat)) [] = some (bl (q_dec (∀ k, k < n → B k 0 = B' k 0)), []) := by
  intro r
  induction r with
  | zero =>
    intro i m hi hm h
    obtain ⟨m, rfl⟩ : ∃ m', m = m' + 1 := ⟨m - 1, by omega⟩
    obtain rfl : i = n := by omega
    rw [eq_st, if_neg (by simp), q_dec_iff.2 h]
  | succ r ih =>
    intro i m hi hm h
    obtain ⟨m, rfl⟩ : ∃ m', m = m' + 1 := ⟨m - 1, by omega⟩
    rw [eq_st, if_pos (by simp <;> omega), chk_true (inb (by omega)), chk_true (inb (by omega)), Int.toNat_natCast, W_nat (by omega)]
    by_cases e : B i 0 = B' i 0
    · rw [if_neg (by simp [e])]
      refine ih (i + 1) m (by omega) (by omega) (fun k hk => ?_)
      by_cases c : k = i
      · rw [c]; exact e
      · exact h k (by omega)
    · rw [if_pos (by simpa using e)]
      have : q_dec (∀ k, k < n → B k 0 = B' k 0) = false := by
        cases c : q_dec (∀ k, k < n → B k 0 = B' k 0)
        · rfl
        · exact absurd (q_dec_iff.1 c i (by omega)) e
      rw [this]
theorem eq_eq (n m : Nat) (hn : n ≤ 1000000) (B B' : Nat → Nat → Int) (J J' : Nat → Nat → PS) : callF prog gl noD (n + 1) O5 0 20 [vi n (rj 1 B J), vi m (rj 1 B' J')] [] = some (bl (q_dec (q_li n (rj 1 B J) = q_li m (rj 1 B' J'))), []) := by
  rw [eq_pre]
  by_cases e : n = m
  · subst e
    rw [if_neg (by simp)]
    refine (eq_loop (n + 1) n hn B B' J J' n 0 (n + 1) (by omega) (by omega) (fun k hk => by omega)).trans ?_
    congr 4
    exact propext li_ext.symm
  · rw [if_pos (by simp; omega)]
    have : q_dec (q_li n (rj 1 B J) = q_li m (rj 1 B' J')) = false := by
      cases c : q_dec (q_li n (rj 1 B J) = q_li m (rj 1 B' J'))
      · rfl
      · have := congrArg List.length (q_dec_iff.1 c)
        rw [li_len, li_len] at this
        exact absurd this e
    rw [this]
theorem sO6a : Sound prog gl (addM 20 (fun nb vs H => match nb, vs, H with
  | 0, [.one (.view n 1 r), .one (.view m 1 s)], [] => some (q_dec (q_isI r ∧ q_isI s ∧ n ≤ 1000000), bl (q_dec (q_li n r = q_li m s)), [])
  | _, _, _ => none) O5) := add1 sO5 (fun nb vs H v H' h => by
  split at h
  · rename_i n r m s
    obtain ⟨h1, h2, h3⟩ : q_dec (q_isI r ∧ q_isI s ∧ n ≤ 1000000) = true ∧ bl (q_dec (q_li n r = q_li m s)) = v ∧ [] = H' := by simpa using h
    subst h2 h3
    obtain ⟨⟨B, J, rfl⟩, ⟨B', J', rfl⟩, hn⟩ := q_dec_iff.1 h1
    exact ⟨n + 1, eq_eq n m hn B B' J J'⟩
  · cases h)
noncomputable def O6 : Orac := addM 20 (fun nb vs H => match nb, vs, H with
  | 0, [.one (.view n 1 r), .one (.view m 1 s)], [] => some (q_dec (q_isN n r ∧ q_isN m s ∧ n ≤ 1000000), bl (q_dec (q_li n r = q_li m s)), [])
  | _, _, _ => none) O5
theorem sO6 : Sound prog gl O6 := ag_in sO5 sO6a (fun nb vs H v H' h => by
  split at h
  · rename_i n r m s
    obtain ⟨h1, h2, h3⟩ : q_dec (q_isN n r ∧ q_isN m s ∧ n ≤ 1000000) = true ∧ bl (q_dec (q_li n r = q_li m s)) = v ∧ [] = H' := by simpa using h
    subst h2 h3
    obtain ⟨hr, hs, hn⟩ := q_dec_iff.1 h1
    refine ⟨[vi n (ri (q_li n r)), vi m (ri (q_li m s))], .cons (vi_ag hr) (.cons (vi_ag hs) .nil), ?_⟩
    show some (q_dec (q_isI (ri (q_li n r)) ∧ q_isI (ri (q_li m s)) ∧ n ≤ 1000000), bl (q_dec (q_li n (ri (q_li n r)) = q_li m (ri (q_li m s)))), ([] : Heap)) = _
    rw [q_dec_iff.2 ⟨isI_ri _, isI_ri _, hn⟩, li_ri', li_ri']
  · cases h)
/-! where there is nothing -/
theorem addNil {g : FuncId} {vs0 : List PV} {v0 : PV} {M N : Orac} {fl : Nat} {D : FuncId → PV} (hM : Sound prog gl M) (hN : Sound prog gl N) (h : callF prog gl D fl N 0 g vs0 [] = some (v0, [])) (A : Nat → List PV → Heap → Option (Bool × PV × Heap)) (hA : ∀ nb vs H v H', A nb vs H = some (true, v, H') → nb = 0 ∧ vs = vs0 ∧ H = [] ∧ v = v0 ∧ H' = []) : Sound prog gl (addN g A M) := addN_ok hM <| add_ok (D := D) hM hN mo (fun nb vs H v H' h1 => by
  obtain ⟨rfl, rfl, rfl, rfl, rfl⟩ := hA nb vs H v H' h1
  exact ⟨fl, h⟩)
noncomputable def O7 : Orac := addN 20 (fun nb vs H => match nb, vs, H with
  | 0, [.one .nils, .one .nils], [] => some (true, bl true, [])
  | _, _, _ => none) O6
theorem sO7 : Sound prog gl O7 := addNil sO6 sO5 eq_nil _ (fun nb vs H v H' h => by
  split at h
  · simp only [Option.some.injEq, Prod.mk.injEq] at h
    exact ⟨rfl, rfl, rfl, h.2.1.symm, h.2.2.symm⟩
  · cases h)
noncomputable def O8 : Orac := addN 23 (fun nb vs H => match nb, vs, H with
  | 0, [.one .nils], [] => some (true, .tup [], [])
  | _, _, _ => none) O7
theorem sO8 : Sound prog gl O8 := addNil sO7 (callF_ok (callF_ok (callF_ok none_ok mo 3) mo 3) mo 3) so_nil _ (fun nb vs H v H' h => by
  split at h
  · simp only [Option.some.injEq, Prod.mk.injEq] at h
    exact ⟨rfl, rfl, rfl, h.2.1.symm, h.2.2.symm⟩
  · cases h)
noncomputable def O9 : Orac := addN 39 (fun nb vs H => match nb, vs, H with
  | 0, [.one .nils], [] => some (true, i64 0, [])
  | _, _, _ => none) O8
theorem sO9 : Sound prog gl O9 := addNil sO8 sO1 od_nil0 _ (fun nb vs H v H' h => by
  split at h
  · simp only [Option.some.injEq, Prod.mk.injEq] at h
    exact ⟨rfl, rfl, rfl, h.2.1.symm, h.2.2.symm⟩
  · cases h)
theorem od_nil (c : Int) (col back : Bool) : callF prog gl noD 2 O9 0 21 [.one .nils, i64 c, bl col, bl back] [] = (if (bif decide (c < (1 : Int)) then true else decide (c > (999 : Int))) = true then (some ((PV.tup [PV.one PS.nils, i64 ((2 : Int))], []))) else (if (decide (W ((0 : Int) * c) > (10000 : Int))) = true then (some ((PV.tup [PV.one PS.nils, i64 ((19 : Int))], []))) else (if (decide ((0 : Int) ≤ W ((0 : Int) * c)) && (decide ((W ((0 : Int) * c)).toNat ≤ (9223372036854775807 : Nat)) && decide ((8 : Nat) * (W ((0 : Int) * c)).toNat ≤ (281474976710656 : Nat)))) = true then (if (decide ((0 : Int) < (↑(W ((0 : Int) * c)).toNat : Int))) = true then (chk true (c != (0 : Int)) (if (col) = true then none else (if (back) = true then none else none))) else (some ((PV.tup [PV.one (PS.os (0 : Nat)), i64 ((0 : Int))], [((0 : Nat), OB.rows (3 : Nat) (1 : Nat) (W ((0 : Int) * c)).toNat fun x j ↦ [PS.int IntKind.i64 (0 : Int)].getD j PS.nilp)])))) else none))) := by kernel_rfl
noncomputable def O10 : Orac := addN 21 (fun nb vs H => match nb, H with
  | 0, [] => ((fun vs => match vs with
    | [.one .nils, .one (.int .i64 c), .one (.bool col), .one (.bool back)] => some (q_dec (1 ≤ c ∧ c ≤ 10), .tup [.one (.view 0 1 (ri [])), i64 0])
    | _ => none : List PV → Option (Bool × PV)) vs).map (fun r => (r.1, r.2, []))
  | _, _ => none) O9
theorem sO10 : Sound prog gl O10 := addN_ok sO9 <| add_fz (D := noD) sO9 sO9 mo (fun vs v h => by
  split at h
  · rename_i c col back
    obtain ⟨h1, h2⟩ := Prod.mk.inj (Option.some.inj h)
    subst h2
    obtain ⟨hc1, hc2⟩ := q_dec_iff.1 h1
    have hW : W (0 * c) = 0 := by rw [Int.zero_mul]; exact W_id (by omega) (by omega)
    refine ⟨2, .tup [.one (.os 0), i64 0], [(0, .rows 3 1 0 (fun _ j => [PS.int .i64 0].getD j .nilp))], ?_, .cons (.view fun i j hi hj => by omega) (.cons (.refl _) .nil), rfl⟩
    rw [od_nil, if_neg (by simp <;> omega), hW, if_neg (by simp), if_pos (by simp), if_neg (by simp)]
    rfl
  · cases h)
/-! the law -/
noncomputable def DL : FuncId → PV := fun f => if f = 1000000 + 58 then .agg [] else if f = 23 then .fn 0 [] else i64 0
noncomputable abbrev yLw (fl : Nat) (p : List Bool) : En → Heap → (Exit → En → Heap → Option (PV × Heap)) → Option (PV × Heap) := bodyAt prog gl O10 DL f7 6 0 fl p
noncomputable abbrev kLw (fl : Nat) (p : List Bool) := kAt prog gl O10 DL f7 6 0 fl p
abbrev pLa : List Bool := [true, true, true, false, true, false]
abbrev pLb : List Bool := [true, true, true, true, true, true, true, true, true, false, true, false]
abbrev pLc : List Bool := [true, true, true, true, true, true, true, true, true, false, true, false, false, true, true, false, false, true, true, false]
abbrev pLd : List Bool := [true, true, true, true, true, true, true, true, true, true, true, false, true, false]
theorem lw_pre (fl n : Nat) (row : Nat → Nat → PS) (cp rs cs : Int) (col back : Bool) : callF prog gl DL fl O10 0 7 [vi n row, i64 cp, bl col, bl back, i64 rs, i64 cs] [] = (if (q_dec (q_odP (1 : Nat) (litRow (1 : Nat) [PS.int IntKind.i64 (7 : Int)]) (2 : Int))) = true then (if (q_dec (q_isN (2 : Nat) (rj (1 : Nat) (fun i x ↦ [(7 : Int), (7 : Int)].getD i (0 : Int)) fun x x_1 ↦ PS.nilp) ∧ q_isN (2 : Nat) (litRow (1 : Nat) [PS.int IntKind.i64 (7 : Int), PS.int IntKind.i64 (7 : Int)]) ∧ (2 : Nat) ≤ (1000000 : Nat))) = true then (if (!q_dec ([(7 : Int), (7 : Int)] = [(7 : Int), (7 : Int)])) = true then (some ((PV.one (PS.bool false), []))) else (rounds (yLw fl pLa) (kLw fl pLa) fl ([((16 : Nat), none, i64 ((0 : Int))), ((15 : Nat), none, PV.one PS.nils), ((14 : Nat), none, i64 ((0 : Int))), ((13 : Nat), none, PV.one (PS.view (2 : Nat) (1 : Nat) (rj (1 : Nat) (fun i x ↦ [(7 : Int), (7 : Int)].getD i (0 : Int)) fun x x_1 ↦ PS.nilp))), ((12 : Nat), none, PV.one (PS.bool false)), ((0 : Nat), none, PV.one (PS.view n (1 : Nat) row)), ((1 : Nat), none, i64 (cp)), ((2 : Nat), none, PV.one (PS.bool col)), ((3 : Nat), none, PV.one (PS.bool back)), ((4 : Nat), none, i64 (rs)), ((5 : Nat), none, i64 (cs))]) ([]))) else none) else none) := by kernel_rfl
end Go.Proofs.Ytobfnncpjkeloaa.Sh
