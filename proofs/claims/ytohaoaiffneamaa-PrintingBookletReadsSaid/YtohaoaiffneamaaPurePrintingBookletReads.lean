/- What PrintingBookletReads computes is true, at every list of pages: a booklet is read in the order of its pages, with less than four empty pages at its end. No condition beyond the kinds of the arguments. -/
import Derived.Test.YtohaoaiffneamaaTypPrintingBookletReads
namespace Go.Proofs.Ytohaoaiffneamaa.Pure
open Go.RowKit Go.Proofs.Ytohaoaiffneamaa.QPrintingBookletReads Go.Proofs.YtohaoaiffneamaaW.PrintWords Go.Proofs.YtohaoaiffneamaaW.PrintLast Go.Proofs.YtohaoaiffneamaaW.PrintMore

/-- From some number of rounds on the answer is there, and it is as told. -/
def EvP {α : Type} (g : Nat → Option α) (P : α → Prop) : Prop := ∃ r, Ev g r ∧ P r
theorem EvP.ret {α : Type} {r : α} {P : α → Prop} (h : P r) : EvP (fun _ => some r) P := ⟨r, Ev.now r, h⟩
theorem EvP.cst {α : Type} {g : Option α} {r : α} {P : α → Prop} (e : g = some r) (h : P r) : EvP (fun _ => g) P := ⟨r, ⟨0, fun _ _ => e⟩, h⟩
theorem EvP.bind {α β : Type} {g : Nat → Option α} {f : Nat → α → Option β} {P : α → Prop} {Q : β → Prop} (h : EvP g P) (k : ∀ a, P a → EvP (fun n => f n a) Q) : EvP (fun n => (g n).bind (f n)) Q := by
  obtain ⟨a, ha, hp⟩ := h
  obtain ⟨r, hr, hq⟩ := k a hp
  exact ⟨r, Ev.bind ha hr, hq⟩
theorem EvP.ite {α : Type} {c : Prop} [Decidable c] {a b : Nat → Option α} {Q : α → Prop} (h : c → EvP a Q) (k : ¬ c → EvP b Q) : EvP (fun n => if c then a n else b n) Q := by
  by_cases hc : c
  · simp only [if_pos hc]; exact h hc
  · simp only [if_neg hc]; exact k hc
theorem EvP.pos {α : Type} {c : Prop} [Decidable c] {a b : Nat → Option α} {Q : α → Prop} (hc : c) (h : EvP a Q) : EvP (fun n => if c then a n else b n) Q := by
  simp only [if_pos hc]; exact h
theorem EvP.neg {α : Type} {c : Prop} [Decidable c] {a b : Nat → Option α} {Q : α → Prop} (hc : ¬ c) (h : EvP b Q) : EvP (fun n => if c then a n else b n) Q := by
  simp only [if_neg hc]; exact h
theorem EvP.step {α : Type} {g f : Nat → Option α} {Q : α → Prop} (h : ∀ k, g (k + 1) = f k) (k : EvP f Q) : EvP g Q := by
  obtain ⟨r, hr, hq⟩ := k
  exact ⟨r, Ev.step h hr, hq⟩
theorem EvP.congr {α : Type} {g f : Nat → Option α} {Q : α → Prop} (h : ∀ k, g k = f k) (k : EvP f Q) : EvP g Q := by
  obtain ⟨r, hr, hq⟩ := k
  exact ⟨r, Ev.congr h hr, hq⟩
theorem EvP.mono {α : Type} {g : Nat → Option α} {P Q : α → Prop} (h : EvP g P) (k : ∀ r, P r → Q r) : EvP g Q := by
  obtain ⟨r, hr, hp⟩ := h
  exact ⟨r, hr, k r hp⟩
theorem EvP.rounds {α : Type} {g : Nat → Option α} {r : α} (h : EvP g (· = r)) : ∃ k, g k = some r := by
  obtain ⟨q, hq, rfl⟩ := h
  exact hq.rounds
theorem EvP.ev {α : Type} {g : Nat → Option α} {r : α} (h : Ev g r) : EvP g (· = r) := ⟨r, h, rfl⟩
/-- What has no rounds, told as what has some. -/
theorem EvP.plain {α : Type} {g : Option α} {P : α → Prop} (h : EvP (fun _ => g) P) : ∃ r, g = some r ∧ P r := by
  obtain ⟨r, ⟨K, hK⟩, hp⟩ := h
  exact ⟨r, hK K (Nat.le_refl _), hp⟩
theorem wz {n : Int} (h : -9223372036854775808 ≤ n) (k : n ≤ 9223372036854775807) : wrap64 n = n := by
  unfold wrap64; omega
theorem bounds64 {n : Int} (h : (Lit.int .i64 n).wf = true) : -9223372036854775808 ≤ n ∧ n ≤ 9223372036854775807 := by
  simp [Lit.wf, IntKind.min, IntKind.max, IntKind.signed, IntKind.bits] at h
  omega

theorem wc {i n : Nat} (h : i < n) (hn : n ≤ 1000000) : wrap64 ((i : Int) + 1) = ((i + 1 : Nat) : Int) := by
  rw [wz (by omega) (by omega)]; omega
theorem rd_nat (l : List Int) (i : Nat) : rd l (i : Int) = l.getD i 0 := by unfold rd; rw [Int.toNat_natCast]
theorem rd_snoc_lt {l : List Int} {a : Int} {j : Nat} (h : j < l.length) : rd (l ++ [a]) (j : Int) = rd l (j : Int) := by
  unfold rd; rw [Int.toNat_natCast, List.getD_eq_getElem?_getD, List.getD_eq_getElem?_getD, List.getElem?_append_left h]
theorem rd_snoc_eq {l : List Int} {a : Int} : rd (l ++ [a]) (l.length : Int) = a := by
  unfold rd; rw [Int.toNat_natCast, List.getD_eq_getElem?_getD]; simp
theorem rd_out {l : List Int} {j : Nat} (h : l.length ≤ j) : rd l (j : Int) = 0 := by
  unfold rd; rw [Int.toNat_natCast, List.getD_eq_getElem?_getD, List.getElem?_eq_none h]; rfl
theorem within_ok {x lo hi : Int} (hx : -9223372036854775808 ≤ x ∧ x ≤ 9223372036854775807) (h : lo ≤ hi) (hlo : -4611686018427387904 ≤ lo) (hhi : hi ≤ 4611686018427387904) (hd : hi - lo < 2305843009213693952) :
    ∃ r, ck_within.f x lo hi = some r ∧ lo ≤ r ∧ r ≤ hi := by
  unfold ck_within.f
  rw [wz (n := hi - lo) (by omega) (by omega), wz (n := hi - lo + 1) (by omega) (by omega)]
  obtain ⟨n, hn⟩ : ∃ n, n = hi - lo + 1 := ⟨_, rfl⟩
  rw [← hn, if_neg (by omega)]
  have t1 : -n < Int.tmod x n ∧ Int.tmod x n < n := by
    constructor
    · by_cases h0 : 0 ≤ x
      · have := Int.tmod_nonneg n h0; omega
      · obtain ⟨m, rfl⟩ : ∃ m, x = -m := ⟨-x, by omega⟩
        rw [Int.neg_tmod]
        have := Int.tmod_lt_of_pos m (show 0 < n by omega)
        omega
    · exact Int.tmod_lt_of_pos x (by omega)
  rw [wz (n := Int.tmod x n + n) (by omega) (by omega)]
  have t2 := Int.tmod_nonneg n (show 0 ≤ Int.tmod x n + n by omega)
  have t3 := Int.tmod_lt_of_pos (Int.tmod x n + n) (show 0 < n by omega)
  refine ⟨_, rfl, ?_, ?_⟩
  · rw [wz (by omega) (by omega)]; omega
  · rw [wz (by omega) (by omega)]; omega
theorem within_ev {x lo hi : Int} (hx : -9223372036854775808 ≤ x ∧ x ≤ 9223372036854775807) (h : lo ≤ hi) (hlo : -4611686018427387904 ≤ lo) (hhi : hi ≤ 4611686018427387904) (hd : hi - lo < 2305843009213693952) :
    EvP (fun _ => ck_within.f x lo hi) (fun r => lo ≤ r ∧ r ≤ hi) := by
  obtain ⟨r, e, h⟩ := within_ok hx h hlo hhi hd
  exact EvP.cst e h
theorem check_l0 {l : List Int} (hn : l.length ≤ 10000) (hv : ∀ j : Nat, 0 ≤ rd l (j : Int) ∧ rd l (j : Int) ≤ 10000) (d : Nat) : ∀ i : Nat, i + d = l.length → EvP (fun k => printing_check.l0 k l (l.length : Int) (i : Int)) (· = 0) := by
  induction d with
  | zero =>
    intro i hi
    exact EvP.step (fun k => by simp only [printing_check.l0]; rfl) (EvP.neg (by omega) (EvP.ret rfl))
  | succ d ih =>
    intro i hi
    have := hv i
    refine EvP.step (fun k => by simp only [printing_check.l0]; rfl) (EvP.pos (by omega) (EvP.pos (by omega) (EvP.pos (by omega) (EvP.neg (by omega) (EvP.neg (by omega) ?_)))))
    rw [wc (n := l.length) (by omega) (by omega)]
    exact ih (i + 1) (by omega)
theorem check_ok {l : List Int} (hn : l.length ≤ 10000) (hv : ∀ j : Nat, 0 ≤ rd l (j : Int) ∧ rd l (j : Int) ≤ 10000) : EvP (fun k => printing_check.f k l) (· = 0) := by
  unfold printing_check.f
  exact EvP.neg (by omega) (check_l0 hn hv l.length 0 (by omega))
/-- The first q pages, empty ones behind the last. -/
def pg (l : List Int) (q : Nat) : List Int := (List.range q).map fun (p : Nat) => printing_page l (p : Int)
theorem pg_len (l : List Int) (q : Nat) : (pg l q).length = q := by simp [pg]
theorem pg_two (l : List Int) (q : Nat) : pg l (q + 2) = pg l q ++ [printing_page l (q : Int), printing_page l ((q + 1 : Nat) : Int)] := by
  simp [pg, List.range_succ]
theorem pg_rd {l : List Int} {q p : Nat} (h : p < q) : rd (pg l q) (p : Int) = printing_page l (p : Int) := by
  rw [rd_nat]; simp [pg, h]
section
variable {l : List Int} (hn : l.length ≤ 200) (hv : ∀ j : Nat, 0 ≤ rd l (j : Int) ∧ rd l (j : Int) ≤ 500)
include hv in
theorem page_bd (p : Nat) : 0 ≤ printing_page l (p : Int) ∧ printing_page l (p : Int) ≤ 500 := by
  unfold printing_page; split
  · exact hv p
  · omega
include hv in
theorem pg_bd (q j : Nat) : 0 ≤ rd (pg l q) (j : Int) ∧ rd (pg l q) (j : Int) ≤ 10000 := by
  by_cases h : j < q
  · rw [pg_rd h]; have := page_bd hv j; omega
  · rw [rd_out (by rw [pg_len]; omega)]; omega
theorem sheet_rd {n i : Nat} (h : i < n) : rd_T34 (printing_sheets l (n : Int) n) (i : Int) = printing_sheet l n i := by
  simp [rd_T34, printing_sheets, h]
include hn hv
omit hn in
theorem read_l1 {n : Nat} (hn2 : n ≤ 50) (d : Nat) : ∀ i : Nat, i + d = n →
    EvP (fun k => printing_Read.l1 k (printing_sheets l n n) (pg l (2 * n + 2 * i)) ((printing_sheets l n n).length : Int) (i : Int)) (fun r => r.2 = 0 ∧ r.1 = pg l (4 * n)) := by
  induction d with
  | zero =>
    intro i hi
    refine EvP.step (fun k => by simp only [printing_Read.l1]; rfl) ?_
    rw [printing_sheets_len]
    refine EvP.neg (by omega) ?_
    refine EvP.bind (check_ok (by rw [pg_len]; omega) (pg_bd hv _)) (fun t ht => EvP.pos ht (EvP.ret ⟨rfl, ?_⟩))
    rw [show 2 * n + 2 * i = 4 * n by omega]
  | succ d ih =>
    intro i hi
    refine EvP.step (fun k => by simp only [printing_Read.l1]; rfl) ?_
    have hi' := ih (i + 1) (by omega)
    rw [printing_sheets_len] at hi' ⊢
    refine EvP.pos (by omega) ?_
    rw [wz (n := (n : Int) - 1) (by omega) (by omega), wz (n := (n : Int) - 1 - i) (by omega) (by omega), wc (n := n) (by omega) (by omega)]
    refine EvP.pos (by omega) (EvP.pos (by omega) ?_)
    have e : ((n : Int) - 1 - i) = ((n - 1 - i : Nat) : Int) := by omega
    rw [e, sheet_rd (by omega)]
    refine EvP.bind (EvP.ret (P := (· = [printing_page l ((2 * n + 2 * i : Nat) : Int), printing_page l ((2 * n + 2 * i + 1 : Nat) : Int)])) ?_) (fun y hy => ?_)
    · simp only [printing_sheet]
      congr 2
      · omega
      · congr 1; omega
    · subst hy
      refine EvP.pos (by rw [pg_len]; simp; omega) ?_
      rw [← pg_two, show 2 * n + 2 * i + 2 = 2 * n + 2 * (i + 1) by omega]
      exact hi'
omit hn in
theorem read_l0 {n : Nat} (hn2 : n ≤ 50) (d : Nat) : ∀ i : Nat, i + d = n →
    EvP (fun k => printing_Read.l0 k (printing_sheets l n n) (pg l (2 * i)) (printing_sheets l n n) ((printing_sheets l n n).length : Int) (i : Int)) (fun r => r.2 = 0 ∧ r.1 = pg l (4 * n)) := by
  induction d with
  | zero =>
    intro i hi
    obtain rfl : i = n := by omega
    refine EvP.step (fun k => by simp only [printing_Read.l0]; rfl) ?_
    have := read_l1 hv hn2 i 0 (by omega)
    refine EvP.neg (by rw [printing_sheets_len]; omega) ?_
    simpa using this
  | succ d ih =>
    intro i hi
    refine EvP.step (fun k => by simp only [printing_Read.l0]; rfl) ?_
    have hi' := ih (i + 1) (by omega)
    rw [printing_sheets_len] at hi' ⊢
    refine EvP.pos (by omega) (EvP.pos (by omega) (EvP.pos (by omega) ?_))
    rw [wc (n := n) (by omega) (by omega), sheet_rd (by omega)]
    refine EvP.bind (EvP.ret (P := (· = [printing_page l ((2 * i : Nat) : Int), printing_page l ((2 * i + 1 : Nat) : Int)])) ?_) (fun y hy => ?_)
    · simp [printing_sheet]
    · subst hy
      refine EvP.pos (by rw [pg_len]; simp; omega) ?_
      rw [← pg_two, show 2 * i + 2 = 2 * (i + 1) by omega]
      exact hi'
omit hn in
theorem read_ok {n : Nat} (hn2 : n ≤ 50) : EvP (fun k => printing_Read.f k (printing_sheets l n n)) (fun r => r.2 = 0 ∧ r.1 = pg l (4 * n)) := by
  unfold printing_Read.f
  refine EvP.neg (by rw [printing_sheets_len]; omega) ?_
  exact read_l0 hv hn2 n 0 (by omega)
theorem booklet_ok : EvP (fun k => printing_Booklet.f k l) (fun r => r.2 = 0 ∧ r.1 = printing_sheets l (((l.length + 3) / 4 : Nat) : Int) ((l.length + 3) / 4)) := by
  unfold printing_Booklet.f
  refine EvP.bind (check_ok (by omega) (fun j => by have := hv j; omega)) (fun t ht => EvP.pos ht (EvP.ret ⟨rfl, rfl⟩))
omit hn hv in
theorem law_l1 {n : Nat} (hn2 : n ≤ 50) (d : Nat) : ∀ i : Nat, i + d = 4 * n → EvP (fun k => ck_PrintingBookletReads.l1 k l (pg l (4 * n)) ((pg l (4 * n)).length : Int) (i : Int)) (· = true) := by
  induction d with
  | zero =>
    intro i hi
    exact EvP.step (fun k => by simp only [ck_PrintingBookletReads.l1]; rfl) (EvP.neg (by rw [pg_len]; omega) (EvP.ret rfl))
  | succ d ih =>
    intro i hi
    have hi' := ih (i + 1) (by omega)
    refine EvP.step (fun k => by simp only [ck_PrintingBookletReads.l1]; rfl) ?_
    rw [pg_len] at hi' ⊢
    rw [wc (n := 4 * n) (by omega) (by omega), pg_rd (by omega)]
    refine EvP.pos (by omega) (EvP.pos (by omega) (EvP.pos (by omega) ?_))
    refine EvP.ite (fun h => EvP.pos (by unfold printing_page; rw [if_pos h]) (EvP.neg (by omega) hi')) (fun h => EvP.pos (by omega) (EvP.pos (by unfold printing_page; rw [if_neg h]) hi'))
theorem law_j2 : EvP (fun k => ck_PrintingBookletReads.j2 k l) (· = true) := by
  obtain ⟨n, hn'⟩ : ∃ n, n = (l.length + 3) / 4 := ⟨_, rfl⟩
  have hb := booklet_ok hn hv
  rw [← hn'] at hb
  refine EvP.step (fun k => by simp only [ck_PrintingBookletReads.j2]; rfl) ?_
  refine EvP.bind hb (fun r hr => ?_)
  rw [hr.2]
  refine EvP.bind (read_ok hv (n := n) (by omega)) (fun s hs => ?_)
  refine EvP.pos hr.1 (EvP.pos hs.1 ?_)
  rw [hs.2, pg_len, printing_sheets_len, wz (n := 4 * (n : Int)) (by omega) (by omega), wz (n := (l.length : Int) + 3) (by omega) (by omega)]
  refine EvP.pos (by omega) (EvP.neg (by omega) ?_)
  refine EvP.step (fun k => by simp only [ck_PrintingBookletReads.j3]; rfl) (EvP.neg (by simp; omega) ?_)
  exact law_l1 (by omega) (4 * n) 0 (by omega)
end
theorem law_l0 {a : List Int} (hw : ∀ x ∈ a, (Lit.int .i64 x).wf = true) (d : Nat) : ∀ (i : Nat) (x : List Int), i + d = 200 → x.length = i → (∀ j : Nat, 0 ≤ rd x (j : Int) ∧ rd x (j : Int) ≤ 500) → EvP (fun k => ck_PrintingBookletReads.l0 k a x (i : Int)) (· = true) := by
  induction d with
  | zero =>
    intro i x hi hx hv
    refine EvP.step (fun k => by simp only [ck_PrintingBookletReads.l0]; rfl) ?_
    exact EvP.ite (fun h => EvP.neg (by omega) (law_j2 (by omega) hv)) (fun h => law_j2 (by omega) hv)
  | succ d ih =>
    intro i x hi hx hv
    refine EvP.step (fun k => by simp only [ck_PrintingBookletReads.l0]; rfl) ?_
    refine EvP.ite (fun h => EvP.pos (by omega) (EvP.pos (by omega) ?_)) (fun h => law_j2 (by omega) hv)
    have hb : -9223372036854775808 ≤ rd a (i : Int) ∧ rd a (i : Int) ≤ 9223372036854775807 := by
      have hm : i < a.length := by omega
      rw [rd_nat, List.getD_eq_getElem?_getD, List.getElem?_eq_getElem hm]
      exact bounds64 (hw _ (List.getElem_mem hm))
    refine EvP.bind (within_ev hb (by omega) (by omega) (by omega) (by omega)) (fun t ht => EvP.pos (by omega) ?_)
    rw [wc (n := 200) (by omega) (by omega)]
    refine ih (i + 1) _ (by omega) (by simp [hx]) (fun j => ?_)
    by_cases e : j < x.length
    · rw [rd_snoc_lt e]; exact hv j
    · by_cases e2 : j = x.length
      · subst e2; rw [rd_snoc_eq]; exact ht
      · rw [rd_out (by simp; omega)]; omega
theorem PrintingBookletReads : PrintingBookletReads_Pure := by
  intro a hw
  refine EvP.rounds (g := fun k => ck_PrintingBookletReads.f k a) ?_
  unfold ck_PrintingBookletReads.f
  have hb : EvP (fun k => printing_Booklet.f k [1, 2, 3]) (fun r => r.2 = 0 ∧ r.1 = printing_sheets [1, 2, 3] 1 1) := by
    refine booklet_ok (l := [1, 2, 3]) (by simp) (fun j => ?_)
    rcases j with _ | _ | _ | j
    · simp [rd]
    · simp [rd]
    · simp [rd]
    · rw [rd_out (by simp)]; omega
  refine EvP.bind hb (fun r hr => EvP.pos hr.1 ?_)
  rw [hr.2]
  refine EvP.pos (by rw [printing_sheets_len]; rfl) (EvP.pos (by rw [printing_sheets_len]; decide) ?_)
  refine EvP.step (fun k => by simp only [ck_PrintingBookletReads.j0]; rfl) (EvP.neg ?_ ?_)
  · intro h
    have : (!((rd_T34 (printing_sheets [1, 2, 3] 1 1) 0).f0 == 0) || (!((rd_T34 (printing_sheets [1, 2, 3] 1 1) 0).f1 == 1) || (!((rd_T34 (printing_sheets [1, 2, 3] 1 1) 0).f2 == 2) || !((rd_T34 (printing_sheets [1, 2, 3] 1 1) 0).f3 == 3)))) = false := by kernel_rfl
    rw [this] at h
    cases h
  · exact law_l0 hw.1 200 0 [] (by omega) rfl (fun j => by simp [rd])

end Go.Proofs.Ytohaoaiffneamaa.Pure
