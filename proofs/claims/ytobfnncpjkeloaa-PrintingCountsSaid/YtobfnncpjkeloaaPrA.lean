import Derived.Test.YtobfnncpjkeloaaCmA
namespace Go.Proofs.Ytobfnncpjkeloaa.Sh
open Go Go.RowKit Go.Proofs.Ytobfnncpjkeloaa.Ev Go.Proofs.Try
set_option maxRecDepth 100000
set_option linter.unusedVariables false
/-! rows of whole numbers as lists -/
def q_ci : PS → Int
  | .int _ x => x
  | _ => 0
def ri (l : List Int) : Nat → Nat → PS := rj 1 (fun i _ => l.getD i 0) (fun _ _ => .nilp)
def q_isI (row : Nat → Nat → PS) : Prop := ∃ B J, row = rj 1 B J
def q_li (n : Nat) (row : Nat → Nat → PS) : List Int := (List.range n).map fun i => q_ci (row i 0)
theorem li_len (n : Nat) (row : Nat → Nat → PS) : (q_li n row).length = n := by simp [q_li]
theorem li_rj {n i : Nat} {B : Nat → Nat → Int} {J : Nat → Nat → PS} (h : i < n) : (q_li n (rj 1 B J)).getD i 0 = B i 0 := by
  unfold q_li
  rw [List.getD_eq_getElem?_getD, List.getElem?_map, List.getElem?_range h]; rfl
theorem li_ri {l : List Int} : q_li l.length (ri l) = l := by
  apply List.ext_getElem?
  intro i
  by_cases h : i < l.length
  · simp [q_li, h, ri, rj, q_ci]
  · rw [List.getElem?_eq_none (by simp [q_li]; omega), List.getElem?_eq_none (by omega)]
theorem isI_ri (l : List Int) : q_isI (ri l) := ⟨_, _, rfl⟩
theorem li_mem {n : Nat} {B : Nat → Nat → Int} {J : Nat → Nat → PS} {i : Nat} (h : i < n) : B i 0 ∈ q_li n (rj 1 B J) := List.mem_map.2 ⟨i, List.mem_range.2 h, rfl⟩
theorem li_of {n : Nat} {B : Nat → Nat → Int} {J : Nat → Nat → PS} {l : List Int} (hl : l.length = n) (h : ∀ i, i < n → B i 0 = l.getD i 0) : ∀ i j, i < n → j < 1 → agS (rj 1 B J i j) (ri l i j) := fun i j hi hj => .of_eq (by
  obtain rfl : j = 0 := by omega
  unfold ri; rw [rj_in (by omega), rj_in (by omega), h i hi])
/-- Is it a row of n whole numbers? -/
def q_isN (n : Nat) (row : Nat → Nat → PS) : Prop := ∀ i, i < n → ∃ x, row i 0 = .int .i64 x
theorem inb {i n : Nat} (h : i < n) : (decide ((0 : Int) ≤ (i : Int)) && decide ((i : Int) < (n : Int))) = true := by simpa using h
abbrev vi (n : Nat) (row : Nat → Nat → PS) : PV := .one (.view n 1 row)
theorem isN_rj (n : Nat) (B : Nat → Nat → Int) (J : Nat → Nat → PS) : q_isN n (rj 1 B J) := fun i _ => ⟨B i 0, rj_in (by omega)⟩
theorem isN_lit (l : List Int) : q_isN l.length (litRow 1 (l.map (PS.int .i64))) := fun i hi => by
  refine ⟨l[i], ?_⟩
  unfold litRow
  by_cases h : l.length = 1
  · obtain rfl : i = 0 := by omega
    simp [h]
  · simp [h, hi]
theorem li_lit (l : List Int) : q_li l.length (litRow 1 (l.map (PS.int .i64))) = l := by
  apply List.ext_getElem?
  intro i
  by_cases hi : i < l.length
  · unfold q_li litRow
    rw [List.getElem?_map, List.getElem?_range hi]
    by_cases h : l.length = 1
    · obtain rfl : i = 0 := by omega
      simp [h, q_ci]
    · simp [h, hi, q_ci]
  · rw [List.getElem?_eq_none (by simp [q_li]; omega), List.getElem?_eq_none (by omega)]
theorem vi_ag {n : Nat} {row : Nat → Nat → PS} (h : q_isN n row) : agV (vi n row) (vi n (ri (q_li n row))) := .view fun i j hi hj => .of_eq (by
  obtain rfl : j = 0 := by omega
  obtain ⟨x, hx⟩ := h i hi
  unfold ri
  rw [rj_in (by omega), hx]
  unfold q_li
  rw [List.getD_eq_getElem?_getD, List.getElem?_map, List.getElem?_range hi]
  simp [hx, q_ci])
theorem li_ri' (n : Nat) (row : Nat → Nat → PS) : q_li n (ri (q_li n row)) = q_li n row := by
  conv => lhs; rw [← li_len n row]
  rw [li_len]
  have := li_ri (l := q_li n row)
  rwa [li_len] at this
/-! printing.check -/
abbrev pCk : List Bool := [true, true, false, true, false]
noncomputable abbrev yCk (fl : Nat) : En → Heap → (Exit → En → Heap → Option (PV × Heap)) → Option (PV × Heap) := bodyAt prog gl O1 noD f39 1 0 fl pCk
noncomputable abbrev kCk (fl : Nat) := kAt prog gl O1 noD f39 1 0 fl pCk
abbrev hCk (n : Nat) (row : Nat → Nat → PS) (i : Int) : En := [(10, none, i64 i), (9, none, i64 n), (8, none, vi n row), (2, none, i64 0), (0, none, vi n row)]
theorem ck_pre (fl n : Nat) (row : Nat → Nat → PS) : callF prog gl noD fl O1 0 39 [vi n row] [] = (if (decide ((↑n : Int) > (10000 : Int))) = true then (some ((i64 ((3 : Int)), []))) else (rounds (yCk fl) (kCk fl) fl ([((10 : Nat), none, i64 ((0 : Int))), ((9 : Nat), none, i64 ((↑n : Int))), ((8 : Nat), none, PV.one (PS.view n (1 : Nat) row)), ((2 : Nat), none, i64 ((0 : Int))), ((0 : Nat), none, PV.one (PS.view n (1 : Nat) row))]) ([]))) := by kernel_rfl
theorem ck_st (fl mm n : Nat) (B : Nat → Nat → Int) (J : Nat → Nat → PS) (i : Int) : rounds (yCk fl) (kCk fl) (mm + 1) (hCk n (rj 1 B J) i) [] = (if (decide (i < (↑n : Int))) = true then (chk true (decide ((0 : Int) ≤ i) && decide (i < (↑n : Int))) (if (bif decide (B i.toNat (0 : Nat) < (0 : Int)) then true else decide (B i.toNat (0 : Nat) > (10000 : Int))) = true then (some ((i64 ((2 : Int)), []))) else (rounds (yCk fl) (kCk fl) mm ([((10 : Nat), none, i64 ((W (i + (1 : Int))))), ((9 : Nat), none, i64 ((↑n : Int))), ((8 : Nat), none, PV.one (PS.view n (1 : Nat) (rj (1 : Nat) B J))), ((2 : Nat), none, i64 ((0 : Int))), ((0 : Nat), none, PV.one (PS.view n (1 : Nat) (rj (1 : Nat) B J)))]) ([])))) else (some ((i64 ((0 : Int)), [])))) := by kernel_rfl
def q_ckP (n : Nat) (row : Nat → Nat → PS) : Prop := q_isI row ∧ n ≤ 10000 ∧ ∀ x, x ∈ q_li n row → 0 ≤ x ∧ x ≤ 10000
theorem ck_eq (n : Nat) (B : Nat → Nat → Int) (J : Nat → Nat → PS) (h : q_ckP n (rj 1 B J)) : callF prog gl noD (n + 2) O1 0 39 [vi n (rj 1 B J)] [] = some (i64 0, []) := by
  obtain ⟨_, hn, hx⟩ := h
  rw [ck_pre, if_neg (by simp <;> omega)]
  refine loop_ex (body := yCk (n + 2)) (K := kCk (n + 2)) (σ := Unit) (fun i _ => hCk n (rj 1 B J) ((i : Nat) : Int)) (fun _ _ => []) (fun _ _ => True) n (Z := fun x => x = some (i64 0, [])) ?_ ?_ (n + 2) 0 () (by omega) (by omega) trivial
  · intro i _ mm hi _
    refine ⟨(), trivial, ?_⟩
    have h1 := hx _ (li_mem (J := J) hi)
    rw [ck_st, if_pos (by simp <;> omega), chk_true (by simp <;> omega), Int.toNat_natCast, if_neg (by simp <;> omega), W_nat (by omega)]
  · intro _ mm _
    rw [ck_st, if_neg (by simp)]
noncomputable def O2 : Orac := addM 39 (fun nb vs H => match nb, vs, H with
  | 0, [.one (.view n 1 row)], [] => some (q_dec (q_ckP n row), i64 0, [])
  | _, _, _ => none) O1
theorem sO2 : Sound prog gl O2 := add1 sO1 (fun nb vs H v H' h => by
  split at h
  · rename_i n row
    obtain ⟨h1, h2, h3⟩ : q_dec (q_ckP n row) = true ∧ i64 0 = v ∧ [] = H' := by simpa using h
    subst h2 h3
    have hp := q_dec_iff.1 h1
    obtain ⟨B, J, rfl⟩ := hp.1
    exact ⟨n + 2, ck_eq n B J hp⟩
  · cases h)
/-! Order -/
abbrev pOd : List Bool := [true, true, true, true, true, false, true, false]
noncomputable abbrev yOd (fl : Nat) : En → Heap → (Exit → En → Heap → Option (PV × Heap)) → Option (PV × Heap) := bodyAt prog gl O2 noD f21 4 0 fl pOd
noncomputable abbrev kOd (fl : Nat) := kAt prog gl O2 noD f21 4 0 fl pOd
theorem od_pre (fl n c : Nat) (row : Nat → Nat → PS) (col back : Bool) : callF prog gl noD fl O2 0 21 [vi n row, i64 c, bl col, bl back] [] = (if (q_dec (q_ckP n row)) = true then (if (bif decide ((↑c : Int) < (1 : Int)) then true else decide ((↑c : Int) > (999 : Int))) = true then (some ((PV.tup [PV.one PS.nils, i64 ((2 : Int))], []))) else (if (decide (W ((↑n : Int) * (↑c : Int)) > (10000 : Int))) = true then (some ((PV.tup [PV.one PS.nils, i64 ((19 : Int))], []))) else (if (decide ((0 : Int) ≤ W ((↑n : Int) * (↑c : Int))) && (decide ((W ((↑n : Int) * (↑c : Int))).toNat ≤ (9223372036854775807 : Nat)) && decide ((8 : Nat) * (W ((↑n : Int) * (↑c : Int))).toNat ≤ (281474976710656 : Nat)))) = true then (rounds (yOd fl) (kOd fl) fl ([((38 : Nat), none, i64 ((0 : Int))), ((37 : Nat), none, i64 ((↑(W ((↑n : Int) * (↑c : Int))).toNat : Int))), ((11 : Nat), none, PV.one (PS.os (35 : Nat))), ((10 : Nat), none, i64 ((0 : Int))), ((9 : Nat), none, i64 ((0 : Int))), ((8 : Nat), none, PV.one PS.nils), ((0 : Nat), none, PV.one (PS.view n (1 : Nat) row)), ((1 : Nat), none, i64 ((↑c : Int))), ((2 : Nat), none, PV.one (PS.bool col)), ((3 : Nat), none, PV.one (PS.bool back))]) ([((35 : Nat), OB.rows (3 : Nat) (1 : Nat) (W ((↑n : Int) * (↑c : Int))).toNat fun x j ↦ [PS.int IntKind.i64 (0 : Int)].getD j PS.nilp)])) else none))) else none) := by kernel_rfl
abbrev hOd (n N : Nat) (row : Nat → Nat → PS) (c : Nat) (col back : Bool) (k : Int) : En := [(38, none, i64 k), (37, none, i64 N), (11, none, .one (.os 35)), (10, none, i64 0), (9, none, i64 0), (8, none, .one .nils), (0, none, vi n row), (1, none, i64 c), (2, none, bl col), (3, none, bl back)]
theorem od_st (fl mm n N c : Nat) (B : Nat → Nat → Int) (J : Nat → Nat → PS) (col back : Bool) (k : Int) (R : Nat → Nat → PS) : rounds (yOd fl) (kOd fl) (mm + 1) (hOd n N (rj 1 B J) c col back k) [(35, .rows 3 1 N R)] = (if (decide (k < (↑N : Int))) = true then (chk true ((↑c : Int) != (0 : Int)) (if (col) = true then (chk true ((↑n : Int) != (0 : Int)) (if (back) = true then (chk true (decide ((0 : Int) ≤ k.tmod (↑n : Int)) && decide (k.tmod (↑n : Int) < (↑n : Int))) (chk true (decide ((0 : Int) ≤ W (W ((↑N : Int) - (1 : Int)) - k)) && decide (W (W ((↑N : Int) - (1 : Int)) - k) < (↑N : Int))) (if (decide ((W (W ((↑N : Int) - (1 : Int)) - k)).toNat < N)) = true then (rounds (yOd fl) (kOd fl) mm ([((38 : Nat), none, i64 ((W (k + (1 : Int))))), ((37 : Nat), none, i64 ((↑N : Int))), ((11 : Nat), none, PV.one (PS.os (35 : Nat))), ((10 : Nat), none, i64 ((0 : Int))), ((9 : Nat), none, i64 ((0 : Int))), ((8 : Nat), none, PV.one PS.nils), ((0 : Nat), none, PV.one (PS.view n (1 : Nat) (rj (1 : Nat) B J))), ((1 : Nat), none, i64 ((↑c : Int))), ((2 : Nat), none, PV.one (PS.bool col)), ((3 : Nat), none, PV.one (PS.bool back))]) ([((35 : Nat), OB.rows (3 : Nat) (1 : Nat) N (putRow R (W (W ((↑N : Int) - (1 : Int)) - k)).toNat (0 : Nat) [PS.int IntKind.i64 (B (k.tmod (↑n : Int)).toNat (0 : Nat))]))])) else none))) else (chk true (decide ((0 : Int) ≤ k.tmod (↑n : Int)) && decide (k.tmod (↑n : Int) < (↑n : Int))) (chk true (decide ((0 : Int) ≤ k) && decide (k < (↑N : Int))) (if (decide (k.toNat < N)) = true then (rounds (yOd fl) (kOd fl) mm ([((38 : Nat), none, i64 ((W (k + (1 : Int))))), ((37 : Nat), none, i64 ((↑N : Int))), ((11 : Nat), none, PV.one (PS.os (35 : Nat))), ((10 : Nat), none, i64 ((0 : Int))), ((9 : Nat), none, i64 ((0 : Int))), ((8 : Nat), none, PV.one PS.nils), ((0 : Nat), none, PV.one (PS.view n (1 : Nat) (rj (1 : Nat) B J))), ((1 : Nat), none, i64 ((↑c : Int))), ((2 : Nat), none, PV.one (PS.bool col)), ((3 : Nat), none, PV.one (PS.bool back))]) ([((35 : Nat), OB.rows (3 : Nat) (1 : Nat) N (putRow R k.toNat (0 : Nat) [PS.int IntKind.i64 (B (k.tmod (↑n : Int)).toNat (0 : Nat))]))])) else none))))) else (if (back) = true then (chk true (decide ((0 : Int) ≤ W (k.tdiv (↑c : Int))) && decide (W (k.tdiv (↑c : Int)) < (↑n : Int))) (chk true (decide ((0 : Int) ≤ W (W ((↑N : Int) - (1 : Int)) - k)) && decide (W (W ((↑N : Int) - (1 : Int)) - k) < (↑N : Int))) (if (decide ((W (W ((↑N : Int) - (1 : Int)) - k)).toNat < N)) = true then (rounds (yOd fl) (kOd fl) mm ([((38 : Nat), none, i64 ((W (k + (1 : Int))))), ((37 : Nat), none, i64 ((↑N : Int))), ((11 : Nat), none, PV.one (PS.os (35 : Nat))), ((10 : Nat), none, i64 ((0 : Int))), ((9 : Nat), none, i64 ((0 : Int))), ((8 : Nat), none, PV.one PS.nils), ((0 : Nat), none, PV.one (PS.view n (1 : Nat) (rj (1 : Nat) B J))), ((1 : Nat), none, i64 ((↑c : Int))), ((2 : Nat), none, PV.one (PS.bool col)), ((3 : Nat), none, PV.one (PS.bool back))]) ([((35 : Nat), OB.rows (3 : Nat) (1 : Nat) N (putRow R (W (W ((↑N : Int) - (1 : Int)) - k)).toNat (0 : Nat) [PS.int IntKind.i64 (B (W (k.tdiv (↑c : Int))).toNat (0 : Nat))]))])) else none))) else (chk true (decide ((0 : Int) ≤ W (k.tdiv (↑c : Int))) && decide (W (k.tdiv (↑c : Int)) < (↑n : Int))) (chk true (decide ((0 : Int) ≤ k) && decide (k < (↑N : Int))) (if (decide (k.toNat < N)) = true then (rounds (yOd fl) (kOd fl) mm ([((38 : Nat), none, i64 ((W (k + (1 : Int))))), ((37 : Nat), none, i64 ((↑N : Int))), ((11 : Nat), none, PV.one (PS.os (35 : Nat))), ((10 : Nat), none, i64 ((0 : Int))), ((9 : Nat), none, i64 ((0 : Int))), ((8 : Nat), none, PV.one PS.nils), ((0 : Nat), none, PV.one (PS.view n (1 : Nat) (rj (1 : Nat) B J))), ((1 : Nat), none, i64 ((↑c : Int))), ((2 : Nat), none, PV.one (PS.bool col)), ((3 : Nat), none, PV.one (PS.bool back))]) ([((35 : Nat), OB.rows (3 : Nat) (1 : Nat) N (putRow R k.toNat (0 : Nat) [PS.int IntKind.i64 (B (W (k.tdiv (↑c : Int))).toNat (0 : Nat))]))])) else none)))))) else (some ((PV.tup [PV.one (PS.os (0 : Nat)), i64 ((0 : Int))], [((0 : Nat), OB.rows (3 : Nat) (1 : Nat) N R)])))) := by kernel_rfl
theorem zero_rj : (fun (_ j : Nat) => [PS.int .i64 0].getD j .nilp) = rj 1 (fun _ _ => 0) (fun _ _ => .nilp) := by
  funext i j
  unfold rj
  by_cases h : j < 1
  · obtain rfl : j = 0 := by omega
    rfl
  · rw [if_neg h]; obtain ⟨j, rfl⟩ : ∃ j', j = j' + 1 := ⟨j - 1, by omega⟩; rfl
/-- Which page comes at the k-th place. -/
def q_oi (l : List Int) (c : Nat) (col : Bool) (k : Nat) : Int := l.getD (if col = true then k % l.length else k / c) 0
def q_at (N : Nat) (back : Bool) (k : Nat) : Nat := if back = true then N - 1 - k else k
def q_ord (l : List Int) (c : Nat) (col back : Bool) : List Int := (List.range (l.length * c)).map fun p => q_oi l c col (q_at (l.length * c) back p)
theorem ord_len (l : List Int) (c : Nat) (col back : Bool) : (q_ord l c col back).length = l.length * c := by simp [q_ord]
theorem at_at {N k : Nat} {back : Bool} (h : k < N) : q_at N back (q_at N back k) = k ∧ q_at N back k < N := by
  unfold q_at
  cases back
  · exact ⟨rfl, h⟩
  · simp; omega
theorem at_inj {N k j : Nat} {back : Bool} (h : k < N) (h' : j < N) (e : q_at N back k = q_at N back j) : k = j := by
  rw [← (at_at (back := back) h).1, e, (at_at h').1]
theorem od_eq (n c : Nat) (B : Nat → Nat → Int) (J : Nat → Nat → PS) (col back : Bool) (hck : q_ckP n (rj 1 B J)) (hn : n ≤ 100) (hc : 1 ≤ c ∧ c ≤ 10) : ∃ B' J', callF prog gl noD (n * c + 2) O2 0 21 [vi n (rj 1 B J), i64 c, bl col, bl back] [] = some (.tup [.one (.os 0), i64 0], [(0, .rows 3 1 (n * c) (rj 1 B' J'))]) ∧ ∀ j, j < n * c → B' (q_at (n * c) back j) 0 = q_oi (q_li n (rj 1 B J)) c col j := by
  have hN : n * c ≤ 1000 := Nat.le_trans (Nat.mul_le_mul hn hc.2) (by decide)
  have hW : W ((n : Int) * (c : Int)) = ((n * c : Nat) : Int) := by rw [← Int.natCast_mul, W_id (by omega) (by omega)]
  rw [od_pre, if_pos (q_dec_iff.2 hck), if_neg (by simp <;> omega), hW, Int.toNat_natCast, if_neg (by simp <;> omega), if_pos (by simp <;> omega), zero_rj]
  refine loop_ex (body := yOd (n * c + 2)) (K := kOd (n * c + 2)) (σ := (Nat → Nat → Int) × (Nat → Nat → PS)) (fun k _ => hOd n (n * c) (rj 1 B J) c col back ((k : Nat) : Int)) (fun _ s => [(35, .rows 3 1 (n * c) (rj 1 s.1 s.2))]) (fun k s => ∀ j, j < k → s.1 (q_at (n * c) back j) 0 = q_oi (q_li n (rj 1 B J)) c col j) (n * c)
    (Z := fun x => ∃ B' J', x = some (PV.tup [.one (.os 0), i64 0], [(0, OB.rows 3 1 (n * c) (rj 1 B' J'))]) ∧ ∀ j, j < n * c → B' (q_at (n * c) back j) 0 = q_oi (q_li n (rj 1 B J)) c col j) ?_ ?_ (n * c + 2) 0 ((fun _ _ => 0), fun _ _ => .nilp) (by omega) (by omega) (fun j hj => by omega)
  · intro k s mm hk hI
    have hn0 : 0 < n := by
      rcases Nat.eq_zero_or_pos n with h | h
      · subst h; omega
      · exact h
    have hi : (if col = true then k % n else k / c) < n := by
      split
      · exact Nat.mod_lt _ hn0
      · exact Nat.div_lt_of_lt_mul (by rw [Nat.mul_comm]; exact hk)
    refine ⟨(putB s.1 (q_at (n * c) back k) 0 (B (if col = true then k % n else k / c) 0), s.2), fun j hj => ?_, ?_⟩
    · show putB s.1 (q_at (n * c) back k) 0 _ (q_at (n * c) back j) 0 = _
      unfold putB
      by_cases e : j = k
      · subst e
        rw [if_pos ⟨rfl, rfl⟩]
        unfold q_oi
        rw [li_len, li_rj hi]
      · rw [if_neg (fun h => e (at_inj (by omega) hk h.1))]
        exact hI j (by omega)
    · have e1 : (k : Int).tmod (n : Int) = ((k % n : Nat) : Int) := by rw [Int.ofNat_tmod]
      have e2 : W ((k : Int).tdiv (c : Int)) = ((k / c : Nat) : Int) := by
        have := Nat.div_le_self k c
        rw [← Int.ofNat_tdiv]
        generalize k / c = q at this ⊢
        exact W_id (by omega) (by omega)
      have e3 : W (W (((n * c : Nat) : Int) - 1) - (k : Int)) = ((n * c - 1 - k : Nat) : Int) := by rw [W_id (n := ((n * c : Nat) : Int) - 1) (by omega) (by omega), W_id (by omega) (by omega)]; omega
      have hm : k % n < n := Nat.mod_lt _ hn0
      show rounds _ _ _ (hOd n (n * c) (rj 1 B J) c col back (k : Nat)) [(35, .rows 3 1 (n * c) (rj 1 s.1 s.2))] = _
      rw [od_st, if_pos (by simp <;> omega), chk_true (by simp <;> omega), e1, e2, e3]
      simp only [Int.toNat_natCast]
      cases col
      · rw [if_neg (by simp)]
        simp only [Bool.false_eq_true, if_false] at hi ⊢
        cases back
        · rw [if_neg (by simp), chk_true (inb hi), chk_true (inb hk), if_pos (decide_eq_true hk), put_rj _ _ _ _ _ _ (by omega), W_nat (by omega)]; rfl
        · rw [if_pos rfl, chk_true (inb hi), chk_true (inb (show n * c - 1 - k < n * c by omega)), if_pos (decide_eq_true (show n * c - 1 - k < n * c by omega)), put_rj _ _ _ _ _ _ (by omega), W_nat (by omega)]; rfl
      · rw [if_pos rfl, chk_true (by simp <;> omega)]
        simp only [if_true] at hi ⊢
        cases back
        · rw [if_neg (by simp), chk_true (inb hi), chk_true (inb hk), if_pos (decide_eq_true hk), put_rj _ _ _ _ _ _ (by omega), W_nat (by omega)]; rfl
        · rw [if_pos rfl, chk_true (inb hi), chk_true (inb (show n * c - 1 - k < n * c by omega)), if_pos (decide_eq_true (show n * c - 1 - k < n * c by omega)), put_rj _ _ _ _ _ _ (by omega), W_nat (by omega)]; rfl
  · intro s mm hI
    refine ⟨s.1, s.2, ?_, hI⟩
    show rounds _ _ _ (hOd n (n * c) (rj 1 B J) c col back ((n * c : Nat) : Int)) [(35, .rows 3 1 (n * c) (rj 1 s.1 s.2))] = _
    rw [od_st, if_neg (by simp)]
def q_odP (n : Nat) (row : Nat → Nat → PS) (c : Int) : Prop := q_ckP n row ∧ n ≤ 100 ∧ 1 ≤ c ∧ c ≤ 10
noncomputable def O3 : Orac := addM 21 (fun nb vs H => match nb, H with
  | 0, [] => ((fun vs => match vs with
    | [.one (.view n 1 row), .one (.int .i64 c), .one (.bool col), .one (.bool back)] => some (q_dec (q_odP n row c), .tup [.one (.view (n * c.toNat) 1 (ri (q_ord (q_li n row) c.toNat col back))), i64 0])
    | _ => none : List PV → Option (Bool × PV)) vs).map (fun r => (r.1, r.2, []))
  | _, _ => none) O2
theorem sO3 : Sound prog gl O3 := add_fz (D := noD) sO2 sO2 mo (fun vs v h => by
  split at h
  · rename_i n row c col back
    obtain ⟨h1, h2⟩ := Prod.mk.inj (Option.some.inj h)
    subst h2
    obtain ⟨hck, hn, hc1, hc2⟩ := q_dec_iff.1 h1
    obtain ⟨B, J, rfl⟩ := hck.1
    obtain ⟨c, rfl⟩ := Int.eq_ofNat_of_zero_le (show 0 ≤ c by omega)
    obtain ⟨B', J', e1, e2⟩ := od_eq n c B J col back hck hn ⟨by omega, by omega⟩
    refine ⟨_, _, _, e1, .cons (.view fun i j hi hj => ?_) (.cons (.refl _) .nil), rfl⟩
    rw [Int.toNat_natCast]
    refine li_of (by rw [ord_len, li_len]) (fun p hp => ?_) i j hi hj
    obtain ⟨h5, h6⟩ := at_at (back := back) hp
    have := e2 _ h6
    rw [h5] at this
    rw [this, List.getD_eq_getElem?_getD]
    unfold q_ord
    rw [li_len, List.getElem?_map, List.getElem?_range hp]; rfl
  · cases h)
end Go.Proofs.Ytobfnncpjkeloaa.Sh
