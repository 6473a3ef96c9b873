import Derived.Test.YtobfnncpjkeloaaPrG
namespace Go.Proofs.Ytobfnncpjkeloaa.Sh
open Go Go.RowKit Go.Proofs.Ytobfnncpjkeloaa.Ev Go.Proofs.Try
set_option maxRecDepth 1000000
set_option linter.unusedVariables false
theorem ld_n (fl mm : Nat) (p : Pw) (i k : Int) (a : Nat) (A : Nat → Nat → PS) : rd_ fl (mm + 1) (hLd p (.os 112) .nils i k) (H1 a A) = (if (decide (k < p.6)) = true then (if (decide ((0 : Nat) + p.11 ≤ (9223372036854775807 : Nat)) && decide (((0 : Nat) + p.11) * (8 : Nat) ≤ (140737488355328 : Nat))) = true then (rd_ fl mm ([((116 : Nat), none, i64 ((W (k + (1 : Int))))), ((115 : Nat), none, i64 (p.6)), ((26 : Nat), none, PV.one (PS.os (120 : Nat))), ((97 : Nat), none, i64 (i)), ((96 : Nat), none, i64 ((↑p.1 : Int))), ((95 : Nat), none, PV.one (PS.view p.1 (1 : Nat) fun i x ↦ PS.view p.2 (1 : Nat) (rj (1 : Nat) (fun k x ↦ p.3 i k) fun x x_1 ↦ PS.nilp))), ((21 : Nat), none, PV.one (PS.os (112 : Nat))), ((20 : Nat), none, i64 ((0 : Int))), ((19 : Nat), none, PV.one (PS.view p.1 (1 : Nat) fun i x ↦ PS.view p.2 (1 : Nat) (rj (1 : Nat) (fun k x ↦ p.3 i k) fun x x_1 ↦ PS.nilp))), ((18 : Nat), none, i64 ((0 : Int))), ((17 : Nat), none, PV.one (PS.view p.4 (1 : Nat) p.5)), ((5 : Nat), none, i64 (p.8)), ((4 : Nat), none, i64 (p.7)), ((1 : Nat), none, i64 (p.6)), ((16 : Nat), none, i64 (p.9)), ((15 : Nat), none, PV.one (PS.view p.11 (1 : Nat) p.12)), ((14 : Nat), none, i64 ((0 : Int))), ((13 : Nat), none, PV.one (PS.view (2 : Nat) (1 : Nat) (rj (1 : Nat) (fun i x ↦ [(7 : Int), (7 : Int)].getD i (0 : Int)) fun x x_1 ↦ PS.nilp))), ((12 : Nat), none, PV.one (PS.bool false)), ((0 : Nat), none, PV.one (PS.view p.10 (1 : Nat) p.13)), ((2 : Nat), none, PV.one (PS.bool p.14)), ((3 : Nat), none, PV.one (PS.bool p.15))]) ([((120 : Nat), OB.rows (3 : Nat) (1 : Nat) ((0 : Nat) + p.11) (appRow (0 : Nat) (fun _ _ ↦ PS.nilp) p.12)), ((112 : Nat), OB.rows (3 : Nat) (1 : Nat) a A)])) else none) else (if (q_dec (q_soP a A)) = true then none else none)) := by kernel_rfl
abbrev H2 (a b : Nat) (A B : Nat → Nat → PS) : Heap := [(120, .rows 3 1 b B), (112, .rows 3 1 a A)]
theorem ld_o (fl mm : Nat) (p : Pw) (i k : Int) (a b : Nat) (A B : Nat → Nat → PS) : rd_ fl (mm + 1) (hLd p (.os 112) (.os 120) i k) (H2 a b A B) = (if (decide (k < p.6)) = true then (if (decide (b + p.11 ≤ (9223372036854775807 : Nat)) && decide ((b + p.11) * (8 : Nat) ≤ (140737488355328 : Nat))) = true then (rd_ fl mm ([((116 : Nat), none, i64 ((W (k + (1 : Int))))), ((115 : Nat), none, i64 (p.6)), ((26 : Nat), none, PV.one (PS.os (120 : Nat))), ((97 : Nat), none, i64 (i)), ((96 : Nat), none, i64 ((↑p.1 : Int))), ((95 : Nat), none, PV.one (PS.view p.1 (1 : Nat) fun i x ↦ PS.view p.2 (1 : Nat) (rj (1 : Nat) (fun k x ↦ p.3 i k) fun x x_1 ↦ PS.nilp))), ((21 : Nat), none, PV.one (PS.os (112 : Nat))), ((20 : Nat), none, i64 ((0 : Int))), ((19 : Nat), none, PV.one (PS.view p.1 (1 : Nat) fun i x ↦ PS.view p.2 (1 : Nat) (rj (1 : Nat) (fun k x ↦ p.3 i k) fun x x_1 ↦ PS.nilp))), ((18 : Nat), none, i64 ((0 : Int))), ((17 : Nat), none, PV.one (PS.view p.4 (1 : Nat) p.5)), ((5 : Nat), none, i64 (p.8)), ((4 : Nat), none, i64 (p.7)), ((1 : Nat), none, i64 (p.6)), ((16 : Nat), none, i64 (p.9)), ((15 : Nat), none, PV.one (PS.view p.11 (1 : Nat) p.12)), ((14 : Nat), none, i64 ((0 : Int))), ((13 : Nat), none, PV.one (PS.view (2 : Nat) (1 : Nat) (rj (1 : Nat) (fun i x ↦ [(7 : Int), (7 : Int)].getD i (0 : Int)) fun x x_1 ↦ PS.nilp))), ((12 : Nat), none, PV.one (PS.bool false)), ((0 : Nat), none, PV.one (PS.view p.10 (1 : Nat) p.13)), ((2 : Nat), none, PV.one (PS.bool p.14)), ((3 : Nat), none, PV.one (PS.bool p.15))]) ([((120 : Nat), OB.rows (3 : Nat) (1 : Nat) (b + p.11) (appRow b B p.12)), ((112 : Nat), OB.rows (3 : Nat) (1 : Nat) a A)])) else none) else (if (q_dec (q_soP a A)) = true then (if (q_dec (q_soP b B)) = true then (if (q_dec (q_isN a (rj (1 : Nat) (fun i x ↦ (q_srt (q_li a A)).getD i (0 : Int)) fun x x_1 ↦ PS.nilp) ∧ q_isN b (rj (1 : Nat) (fun i x ↦ (q_srt (q_li b B)).getD i (0 : Int)) fun x x_1 ↦ PS.nilp) ∧ a ≤ (1000000 : Nat))) = true then (some ((PV.one (PS.bool (q_dec (q_li a (rj (1 : Nat) (fun i x ↦ (q_srt (q_li a A)).getD i (0 : Int)) fun x x_1 ↦ PS.nilp) = q_li b (rj (1 : Nat) (fun i x ↦ (q_srt (q_li b B)).getD i (0 : Int)) fun x x_1 ↦ PS.nilp)))), []))) else none) else none) else none)) := by kernel_rfl
/-! where the law is given nothing -/
abbrev hLbz (p : Pw) (i : Int) : En := (97, none, i64 i) :: (96, none, i64 p.M) :: (95, none, yv p.M p.q p.g) :: (21, none, .one .nils) :: (20, none, i64 0) :: (19, none, yv p.M p.q p.g) :: [(18, none, i64 0), (17, none, vi p.N p.X), (5, none, i64 p.cs), (4, none, i64 p.rs), (1, none, i64 p.cp), (16, none, i64 p.i0), (15, none, .one .nils), (14, none, i64 0), (13, none, .one (.view 2 1 (rj 1 (fun i x ↦ [(7 : Int), (7 : Int)].getD i (0 : Int)) fun x x_1 ↦ PS.nilp))), (12, none, bl false), (0, none, vi p.n p.row), (2, none, bl p.col), (3, none, bl p.back)]
abbrev hLdz (p : Pw) (i k : Int) : En := (116, none, i64 k) :: (115, none, i64 p.cp) :: (26, none, .one .nils) :: hLbz p i
theorem lbz (fl mm : Nat) (p : Pw) (i : Int) : rb_ fl (mm + 1) (hLbz p i) [] = (if (decide (i < (↑p.1 : Int))) = true then (chk true (decide ((0 : Int) ≤ i) && decide (i < (↑p.1 : Int))) (rounds (yLw fl pLc) (kLc fl mm (hLbz p i) []) fl ([((103 : Nat), none, i64 ((0 : Int))), ((102 : Nat), none, i64 ((↑p.2 : Int))), ((101 : Nat), none, PV.one (PS.view p.2 (1 : Nat) (rj (1 : Nat) (fun k x ↦ p.3 i.toNat k) fun x x_1 ↦ PS.nilp))), ((23 : Nat), none, PV.one (PS.view p.2 (1 : Nat) (rj (1 : Nat) (fun k x ↦ p.3 i.toNat k) fun x x_1 ↦ PS.nilp))), ((97 : Nat), none, i64 (i)), ((96 : Nat), none, i64 ((↑p.1 : Int))), ((95 : Nat), none, PV.one (PS.view p.1 (1 : Nat) fun i x ↦ PS.view p.2 (1 : Nat) (rj (1 : Nat) (fun k x ↦ p.3 i k) fun x x_1 ↦ PS.nilp))), ((21 : Nat), none, PV.one PS.nils), ((20 : Nat), none, i64 ((0 : Int))), ((19 : Nat), none, PV.one (PS.view p.1 (1 : Nat) fun i x ↦ PS.view p.2 (1 : Nat) (rj (1 : Nat) (fun k x ↦ p.3 i k) fun x x_1 ↦ PS.nilp))), ((18 : Nat), none, i64 ((0 : Int))), ((17 : Nat), none, PV.one (PS.view p.4 (1 : Nat) p.5)), ((5 : Nat), none, i64 (p.8)), ((4 : Nat), none, i64 (p.7)), ((1 : Nat), none, i64 (p.6)), ((16 : Nat), none, i64 (p.9)), ((15 : Nat), none, PV.one PS.nils), ((14 : Nat), none, i64 ((0 : Int))), ((13 : Nat), none, PV.one (PS.view (2 : Nat) (1 : Nat) (rj (1 : Nat) (fun i x ↦ [(7 : Int), (7 : Int)].getD i (0 : Int)) fun x x_1 ↦ PS.nilp))), ((12 : Nat), none, PV.one (PS.bool false)), ((0 : Nat), none, PV.one (PS.view p.10 (1 : Nat) p.13)), ((2 : Nat), none, PV.one (PS.bool p.14)), ((3 : Nat), none, PV.one (PS.bool p.15))]) ([]))) else (rd_ fl fl ([((116 : Nat), none, i64 ((0 : Int))), ((115 : Nat), none, i64 (p.6)), ((26 : Nat), none, PV.one PS.nils), ((97 : Nat), none, i64 (i)), ((96 : Nat), none, i64 ((↑p.1 : Int))), ((95 : Nat), none, PV.one (PS.view p.1 (1 : Nat) fun i x ↦ PS.view p.2 (1 : Nat) (rj (1 : Nat) (fun k x ↦ p.3 i k) fun x x_1 ↦ PS.nilp))), ((21 : Nat), none, PV.one PS.nils), ((20 : Nat), none, i64 ((0 : Int))), ((19 : Nat), none, PV.one (PS.view p.1 (1 : Nat) fun i x ↦ PS.view p.2 (1 : Nat) (rj (1 : Nat) (fun k x ↦ p.3 i k) fun x x_1 ↦ PS.nilp))), ((18 : Nat), none, i64 ((0 : Int))), ((17 : Nat), none, PV.one (PS.view p.4 (1 : Nat) p.5)), ((5 : Nat), none, i64 (p.8)), ((4 : Nat), none, i64 (p.7)), ((1 : Nat), none, i64 (p.6)), ((16 : Nat), none, i64 (p.9)), ((15 : Nat), none, PV.one PS.nils), ((14 : Nat), none, i64 ((0 : Int))), ((13 : Nat), none, PV.one (PS.view (2 : Nat) (1 : Nat) (rj (1 : Nat) (fun i x ↦ [(7 : Int), (7 : Int)].getD i (0 : Int)) fun x x_1 ↦ PS.nilp))), ((12 : Nat), none, PV.one (PS.bool false)), ((0 : Nat), none, PV.one (PS.view p.10 (1 : Nat) p.13)), ((2 : Nat), none, PV.one (PS.bool p.14)), ((3 : Nat), none, PV.one (PS.bool p.15))]) ([]))) := by kernel_rfl
theorem ldz (fl mm : Nat) (p : Pw) (i k : Int) : rd_ fl (mm + 1) (hLdz p i k) [] = (if (decide (k < p.6)) = true then (rd_ fl mm ([((116 : Nat), none, i64 ((W (k + (1 : Int))))), ((115 : Nat), none, i64 (p.6)), ((26 : Nat), none, PV.one PS.nils), ((97 : Nat), none, i64 (i)), ((96 : Nat), none, i64 ((↑p.1 : Int))), ((95 : Nat), none, PV.one (PS.view p.1 (1 : Nat) fun i x ↦ PS.view p.2 (1 : Nat) (rj (1 : Nat) (fun k x ↦ p.3 i k) fun x x_1 ↦ PS.nilp))), ((21 : Nat), none, PV.one PS.nils), ((20 : Nat), none, i64 ((0 : Int))), ((19 : Nat), none, PV.one (PS.view p.1 (1 : Nat) fun i x ↦ PS.view p.2 (1 : Nat) (rj (1 : Nat) (fun k x ↦ p.3 i k) fun x x_1 ↦ PS.nilp))), ((18 : Nat), none, i64 ((0 : Int))), ((17 : Nat), none, PV.one (PS.view p.4 (1 : Nat) p.5)), ((5 : Nat), none, i64 (p.8)), ((4 : Nat), none, i64 (p.7)), ((1 : Nat), none, i64 (p.6)), ((16 : Nat), none, i64 (p.9)), ((15 : Nat), none, PV.one PS.nils), ((14 : Nat), none, i64 ((0 : Int))), ((13 : Nat), none, PV.one (PS.view (2 : Nat) (1 : Nat) (rj (1 : Nat) (fun i x ↦ [(7 : Int), (7 : Int)].getD i (0 : Int)) fun x x_1 ↦ PS.nilp))), ((12 : Nat), none, PV.one (PS.bool false)), ((0 : Nat), none, PV.one (PS.view p.10 (1 : Nat) p.13)), ((2 : Nat), none, PV.one (PS.bool p.14)), ((3 : Nat), none, PV.one (PS.bool p.15))]) ([])) else (some ((PV.one (PS.bool true), [])))) := by kernel_rfl
theorem ldz_loop (fl : Nat) (p : Pw) (i : Int) (c : Nat) (hc : p.cp = (c : Int)) (hc2 : c ≤ 5) : ∀ (r k m : Nat), k + r = c → r < m → rd_ fl m (hLdz p i (k : Nat)) [] = some (bl true, []) := by
  intro r
  induction r with
  | zero =>
    intro k m hk hm
    obtain ⟨m, rfl⟩ : ∃ m', m = m' + 1 := ⟨m - 1, by omega⟩
    rw [ldz, if_neg (by simp [hc]; omega)]
  | succ r ih =>
    intro k m hk hm
    obtain ⟨m, rfl⟩ : ∃ m', m = m' + 1 := ⟨m - 1, by omega⟩
    rw [ldz, if_pos (by simp [hc]; omega), W_nat (by omega)]
    exact ih (k + 1) m (by omega) (by omega)
theorem ri_apl {W A : List Int} {B R : Nat → Nat → PS} (h : RiIs W B) (h2 : RiIs A R) : RiIs (W ++ A) (appRow W.length B R) := by
  obtain ⟨B1, J1, rfl, h1⟩ := h
  obtain ⟨B2, J2, rfl, h2⟩ := h2
  refine ⟨fun i j => if i < W.length then B1 i j else B2 (i - W.length) j, fun i j => if i < W.length then J1 i j else J2 (i - W.length) j, ?_, fun i hi => ?_⟩
  · funext i j
    rw [appRow_eq]
    unfold rj
    by_cases a : i < W.length <;> by_cases b : j < 1 <;> simp [a, b]
  · rw [List.length_append] at hi
    by_cases a : i < W.length
    · simp only [if_pos a]
      rw [h1 i a, List.getD_eq_getElem?_getD, List.getD_eq_getElem?_getD, List.getElem?_append_left a]
    · simp only [if_neg a]
      rw [h2 _ (by omega), List.getD_eq_getElem?_getD, List.getD_eq_getElem?_getD, List.getElem?_append_right (by omega)]
theorem ri_apl0 {A : List Int} {B R : Nat → Nat → PS} (h2 : RiIs A R) : RiIs A (appRow 0 B R) := by
  obtain ⟨B2, J2, rfl, h2⟩ := h2
  refine ⟨B2, J2, ?_, h2⟩
  funext i j
  rw [appRow_eq, if_neg (by omega)]; rfl
theorem ld_loop (fl : Nat) (p : Pw) (i : Int) (c : Nat) (hc : p.cp = (c : Int)) (hc2 : c ≤ 5) {own A : List Int} (hown : RiIs own p.R) (hm : own.length = p.m) (ho : 0 < p.m ∧ p.m ≤ 40) {R : Nat → Nat → PS} (hA : RiIs A R) (hp : A.Perm (q_rep own c)) : ∀ (r k m : Nat) (B : Nat → Nat → PS), k + r = c → r < m → 1 ≤ k → RiIs (q_rep own k) B → rd_ fl m (hLd p (.os 112) (.os 120) i (k : Nat)) (H2 A.length (p.m * k) R B) = some (bl true, []) := by
  intro r
  induction r with
  | zero =>
    intro k m B hk hm' h1 hB
    obtain ⟨m, rfl⟩ : ∃ m', m = m' + 1 := ⟨m - 1, by omega⟩
    obtain rfl : k = c := by omega
    have l1 := hp.length_eq
    rw [rep_len, hm] at l1
    have hle : p.m * k ≤ 40 * 5 := Nat.mul_le_mul ho.2 hc2
    have hpos : 0 < p.m * k := Nat.mul_pos ho.1 (by omega)
    have e1 := ri_li hA
    have e2 := ri_li hB
    rw [rep_len, hm] at e2
    have s1 : (q_srt A).length = A.length := srt_len A
    have s2 : (q_srt (q_rep own k)).length = p.m * k := by rw [srt_len, rep_len, hm]
    rw [ld_o, if_neg (by simp [hc]), if_pos (q_dec_iff.2 ⟨ri_isI hA, by omega, by omega⟩), if_pos (q_dec_iff.2 ⟨ri_isI hB, hpos, by omega⟩), e1, e2]
    show (if q_dec (q_isN A.length (ri (q_srt A)) ∧ q_isN (p.m * k) (ri (q_srt (q_rep own k))) ∧ A.length ≤ 1000000) = true then some (PV.one (PS.bool (q_dec (q_li A.length (ri (q_srt A)) = q_li (p.m * k) (ri (q_srt (q_rep own k)))))), []) else none) = _
    rw [if_pos (q_dec_iff.2 ⟨isN_rj _ _ _, isN_rj _ _ _, by omega⟩), ← s2, ← s1, li_ri, li_ri, q_dec_iff.2 (srt_perm hp)]
  | succ r ih =>
    intro k m B hk hm' h1 hB
    obtain ⟨m, rfl⟩ : ∃ m', m = m' + 1 := ⟨m - 1, by omega⟩
    have hle : p.m * k ≤ 40 * 5 := Nat.mul_le_mul ho.2 (by omega)
    have hB' := ri_apl hB hown
    rw [rep_len, hm] at hB'
    have := ih (k + 1) m _ (by omega) (by omega) (by omega) hB'
    rw [Nat.mul_succ] at this
    rw [ld_o, if_pos (by simp [hc]; omega), if_pos (by simp; omega), W_nat (by omega)]
    exact this
theorem ld_all (fl : Nat) (hfl : 7 ≤ fl) (p : Pw) (i : Int) (c : Nat) (hc : p.cp = (c : Int)) (hc2 : 1 ≤ c ∧ c ≤ 5) {own A : List Int} (hown : RiIs own p.R) (hm : own.length = p.m) (ho : 0 < p.m ∧ p.m ≤ 40) {R : Nat → Nat → PS} (hA : RiIs A R) (hp : A.Perm (q_rep own c)) : rd_ fl fl (hLd p (.os 112) .nils i 0) (H1 A.length R) = some (bl true, []) := by
  obtain ⟨m, rfl⟩ : ∃ m, fl = m + 1 := ⟨fl - 1, by omega⟩
  have e : q_rep own 1 = own := List.nil_append own
  have := ld_loop (m + 1) p i c hc hc2.2 hown hm ho hA hp (c - 1) 1 m (appRow 0 (fun _ _ => .nilp) p.R) (by omega) (by omega) (by omega) (by rw [e]; exact ri_apl0 hown)
  rw [Nat.mul_one] at this
  rw [ld_n, if_pos (by simp [hc]; omega), if_pos (by simp; omega), show W ((0 : Int) + 1) = ((1 : Nat) : Int) from W_id (by omega) (by omega), Nat.zero_add]
  exact this
/-- The law's own pages. -/
def q_ow (n : Nat) (B : Nat → Nat → Int) : List Int := (List.range n).map fun i => q_within (B i 0) 1 60
theorem ow_succ (n : Nat) (B : Nat → Nat → Int) : q_ow (n + 1) B = q_ow n B ++ [q_within (B n 0) 1 60] := by unfold q_ow; rw [List.range_succ, List.map_append]; rfl
theorem ow_len (n : Nat) (B : Nat → Nat → Int) : (q_ow n B).length = n := by simp [q_ow]
theorem ow_mem {n : Nat} {B : Nat → Nat → Int} {x : Int} (h : x ∈ q_ow n B) : 1 ≤ x ∧ x ≤ 60 := by
  obtain ⟨i, _, rfl⟩ := List.mem_map.1 h
  exact within_in _ _ _ (by omega)
theorem ord_mem {l : List Int} {c : Nat} {col back : Bool} {x : Int} (h : x ∈ q_ord l c col back) : x ∈ l := rep_mem ((ord_perm l c col back).mem_iff.1 h)
theorem la_end (fl mm n : Nat) (hfl : 1000 ≤ fl) (B : Nat → Nat → Int) (J R : Nat → Nat → PS) (cp rs cs : Int) (col back : Bool) (k : Nat) (hk : k = min n 40) (h1 : 1 ≤ k) (hR : RiIs (q_ow k B) R) : rounds (yLw fl pLa) (kLw fl pLa) (mm + 1) (hLa n (rj 1 B J) cp rs cs col back (.os 57) (k : Nat)) [(57, .rows 3 1 k R)] = some (bl true, []) := by
  have hcp := within_in cp 1 5 (by omega)
  have hrs := within_in rs 1 4 (by omega)
  have hcs := within_in cs 1 4 (by omega)
  rw [la_st, if_neg (by subst hk; by_cases h : n < 40 <;> simp <;> omega)]
  obtain ⟨c, hc⟩ := Int.eq_ofNat_of_zero_le (show 0 ≤ q_within cp 1 5 by omega)
  obtain ⟨r, hr⟩ := Int.eq_ofNat_of_zero_le (show 0 ≤ q_within rs 1 4 by omega)
  obtain ⟨s, hs⟩ := Int.eq_ofNat_of_zero_le (show 0 ≤ q_within cs 1 4 by omega)
  rw [hc] at hcp
  rw [hr] at hrs
  rw [hs] at hcs
  simp only [hc, hr, hs, Int.toNat_natCast]
  have e1 := ri_li hR
  rw [ow_len] at e1
  have hN : k * c ≤ 40 * 5 := Nat.mul_le_mul (by omega) (by omega)
  have e2 : (q_ord (q_ow k B) c col back).length = k * c := by rw [ord_len, ow_len]
  have e3 : q_li (k * c) (ri (q_ord (q_ow k B) c col back)) = q_ord (q_ow k B) c col back := by rw [← e2, li_ri]
  have hX : ∀ x, x ∈ q_ord (q_ow k B) c col back → 1 ≤ x ∧ x ≤ 60 := fun x hx => ow_mem (ord_mem hx)
  have hr' : 1 ≤ r ∧ r < 5 := by omega
  have hs' : 1 ≤ s ∧ s < 5 := by omega
  obtain ⟨h0, h16⟩ := rc16 hr' hs'
  rw [e1]
  have hodP : q_odP k R (c : Int) := ⟨⟨ri_isI hR, by omega, fun x hx => by rw [e1] at hx; have := ow_mem hx; omega⟩, by omega, by omega, by omega⟩
  have hsvP : q_svP (k * c) (ri (q_ord (q_ow k B) c col back)) (r : Int) (s : Int) := ⟨⟨isI_ri _, by omega, fun x hx => by rw [e3] at hx; have := hX x hx; omega⟩, by omega, by omega⟩
  have hW : W ((c : Int) * (k : Int)) = ((k * c : Nat) : Int) := by rw [Int.mul_comm, ← Int.natCast_mul, W_id (by omega) (by omega)]
  rw [if_pos (q_dec_iff.2 hodP)]
  refine Eq.trans (if_pos (q_dec_iff.2 hsvP)) ?_
  rw [hW, if_neg (by simp)]
  have e3' : q_li (k * c) (rj 1 (fun i x ↦ (q_ord (q_ow k B) c col back).getD i (0 : Int)) fun x x_1 ↦ PS.nilp) = q_ord (q_ow k B) c col back := e3
  rw [e3']
  show rb_ fl fl (hLb ⟨q_ns (k * c) (r * s), r * s, fun i k1 => (q_side (q_ord (q_ow k B) c col back) r s back i).getD k1 0, k * c, ri (q_ord (q_ow k B) c col back), c, r, s, k, n, k, R, rj 1 B J, col, back⟩ .nils ((0 : Nat) : Int)) [] = _
  generalize hp : (⟨q_ns (k * c) (r * s), r * s, fun i k1 => (q_side (q_ord (q_ow k B) c col back) r s back i).getD k1 0, k * c, ri (q_ord (q_ow k B) c col back), c, r, s, k, n, k, R, rj 1 B J, col, back⟩ : Pw) = p
  have hpM : p.M = q_ns (k * c) (r * s) := by rw [← hp]
  have hpq : p.q = r * s := by rw [← hp]
  have hpg : p.g = fun i k1 => (q_side (q_ord (q_ow k B) c col back) r s back i).getD k1 0 := by rw [← hp]
  have hns : q_ns (k * c) (r * s) ≤ k * c := by
    have hkc : 0 < k * c := Nat.mul_pos (by omega) (by omega)
    rw [ns_pos h0 hkc]
    have := Nat.div_le_self (k * c - 1) (r * s)
    omega
  obtain ⟨s', H', q1, q2⟩ := lb_loop fl p (by omega) (by omega) (by omega) p.M 0 fl [] .nils [] (by omega) (by omega) (St.nil) (by simp)
  refine q2.trans ?_
  rw [List.nil_append] at q1
  have hall : (q_all p 0 p.M).Perm (q_rep (q_ow k B) c) := by
    refine List.Perm.trans ?_ (ord_perm (q_ow k B) c col back)
    have := all_perm (q_ord (q_ow k B) c col back) (fun x hx => by have := hX x hx; omega) r s hr' hs' back
    rw [e2] at this
    refine List.Perm.trans (List.Perm.of_eq ?_) this
    unfold q_all
    simp only [hpM, hpq, hpg, ← List.range_eq_range']
    congr 1
    funext i
    congr 1
    have e5 : (q_side (q_ord (q_ow k B) c col back) r s back i).length = r * s := by simp [q_side]
    rw [← e5]
    exact map_getD _
  have hne : q_all p 0 p.M ≠ [] := fun h => by
    have := hall.length_eq
    rw [h, rep_len, ow_len] at this
    have : 0 < k * c := Nat.mul_pos (by omega) (by omega)
    simp at *
    omega
  generalize q_all p 0 p.M = A at q1 hall hne
  cases q1 with
  | nil => exact absurd rfl hne
  | row A R1 a1 a2 => exact ld_all fl (by omega) p _ c (by rw [← hp]) (by omega) (by rw [← hp]; exact hR) (by rw [← hp, ow_len]) (by rw [← hp]; show 0 < k ∧ k ≤ 40; omega) a2 hall
theorem la_loop (fl n : Nat) (hfl : 1000 ≤ fl) (B : Nat → Nat → Int) (J : Nat → Nat → PS) (cp rs cs : Int) (col back : Bool) : ∀ (r k m : Nat) (R : Nat → Nat → PS), k + r = min n 40 → r < m → 1 ≤ k → RiIs (q_ow k B) R → rounds (yLw fl pLa) (kLw fl pLa) m (hLa n (rj 1 B J) cp rs cs col back (.os 57) (k : Nat)) [(57, .rows 3 1 k R)] = some (bl true, []) := by
  intro r
  induction r with
  | zero =>
    intro k m R hk hm h1 hR
    obtain ⟨m, rfl⟩ : ∃ m', m = m' + 1 := ⟨m - 1, by omega⟩
    exact la_end fl m n hfl B J R cp rs cs col back k (by omega) h1 hR
  | succ r ih =>
    intro k m R hk hm h1 hR
    obtain ⟨m, rfl⟩ : ∃ m', m = m' + 1 := ⟨m - 1, by omega⟩
    have hR' := ri_app hR (q_within (B k 0) 1 60)
    rw [← ow_succ, ow_len] at hR'
    rw [la_st, if_pos (by simp; omega), chk_true (inb (by omega)), Int.toNat_natCast, if_pos (by simp; omega), W_nat (by omega)]
    exact ih (k + 1) m _ (by omega) (by omega) (by omega) hR'
theorem la_first (fl n : Nat) (hfl : 1000 ≤ fl) (B : Nat → Nat → Int) (J : Nat → Nat → PS) (cp rs cs : Int) (col back : Bool) : rounds (yLw fl pLa) (kLw fl pLa) fl (hLa n (rj 1 B J) cp rs cs col back .nils 0) [] = some (bl true, []) := by
  obtain ⟨m, rfl⟩ : ∃ m', fl = m' + 1 := ⟨fl - 1, by omega⟩
  rw [la_one]
  by_cases hn : 0 < n
  · rw [if_pos (by simpa using hn), chk_true (by simpa using hn)]
    have hR := ri_one (fun _ _ => .nilp) (q_within (B 0 0) 1 60)
    exact la_loop (m + 1) n hfl B J cp rs cs col back (min n 40 - 1) 1 m _ (by omega) (by omega) (by omega) hR
  · obtain rfl : n = 0 := by omega
    have hcp := within_in cp 1 5 (by omega)
    have hrs := within_in rs 1 4 (by omega)
    have hcs := within_in cs 1 4 (by omega)
    rw [if_neg (by simp), if_pos (q_dec_iff.2 (by omega)), if_pos (q_dec_iff.2 ⟨⟨⟨_, _, rfl⟩, by omega, fun x hx => by simp [q_li] at hx⟩, by omega, by omega⟩)]
    obtain ⟨c, hc⟩ := Int.eq_ofNat_of_zero_le (show 0 ≤ q_within cp 1 5 by omega)
    rw [if_neg (by rw [Int.mul_zero, W_id (by omega) (by omega)]; simp)]
    have h0 : 0 < (q_within rs 1 4).toNat * (q_within cs 1 4).toNat := Nat.mul_pos (by omega) (by omega)
    show rb_ (m + 1) (m + 1) (hLbz ⟨q_ns 0 ((q_within rs 1 4).toNat * (q_within cs 1 4).toNat), (q_within rs 1 4).toNat * (q_within cs 1 4).toNat, fun i k1 => (q_side [] (q_within rs 1 4).toNat (q_within cs 1 4).toNat back i).getD k1 0, 0, ri [], q_within cp 1 5, q_within rs 1 4, q_within cs 1 4, 0, 0, 0, fun _ _ => .nilp, rj 1 B J, col, back⟩ 0) [] = _
    rw [lbz, if_neg (by rw [ns_zero h0]; simp)]
    refine ldz_loop (m + 1) ⟨q_ns 0 ((q_within rs 1 4).toNat * (q_within cs 1 4).toNat), (q_within rs 1 4).toNat * (q_within cs 1 4).toNat, fun i k1 => (q_side [] (q_within rs 1 4).toNat (q_within cs 1 4).toNat back i).getD k1 0, 0, ri [], q_within cp 1 5, q_within rs 1 4, q_within cs 1 4, 0, 0, 0, fun _ _ => .nilp, rj 1 B J, col, back⟩ 0 c hc (by omega) c 0 (m + 1) (by omega) (by omega)
theorem lw_eq (n : Nat) (B : Nat → Nat → Int) (J : Nat → Nat → PS) (cp rs cs : Int) (col back : Bool) : callF prog gl DL 1000 O10 0 7 [vi n (rj 1 B J), i64 cp, bl col, bl back, i64 rs, i64 cs] [] = some (bl true, []) := by
  have e7 : litRow 1 [PS.int .i64 7] = rj 1 (fun _ _ => 7) (fun _ j => [PS.int .i64 7].getD j .nilp) := by
    funext i j
    unfold rj
    split
    · rename_i h
      obtain rfl : j = 0 := by omega
      rfl
    · rfl
  have l7 : q_li 1 (litRow 1 [PS.int .i64 7]) = [7] := li_lit [7]
  rw [lw_pre, if_pos (q_dec_iff.2 ⟨⟨⟨_, _, e7⟩, by omega, fun x hx => by rw [l7] at hx; simp at hx; omega⟩, by omega, by omega, by omega⟩), if_pos (q_dec_iff.2 ⟨isN_rj _ _ _, isN_lit [7, 7], by omega⟩), if_neg (by rw [q_dec_iff.2 rfl]; simp)]
  exact la_first 1000 n (by omega) B J cp rs cs col back
end Go.Proofs.Ytobfnncpjkeloaa.Sh
