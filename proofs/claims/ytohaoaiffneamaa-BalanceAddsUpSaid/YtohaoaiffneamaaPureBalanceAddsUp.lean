/- What BalanceAddsUp computes is true, at all cells and widths: all cells have the room that they need at least; between the least and the greatest widths the columns add up to the width of the table, and none leaves its range. No condition beyond the kinds of the arguments. -/
import Derived.Test.YtohaoaiffneamaaPureBalance
import Derived.Test.YtohaoaiffneamaaQBalancex6
namespace Go.Proofs.Ytohaoaiffneamaa.Pure
open Go.RowKit Go.Proofs.Ytohaoaiffneamaa.QBalance Go.Proofs.YtohaoaiffneamaaW.PrintWords Go.Proofs.YtohaoaiffneamaaW.PrintLast Go.Proofs.YtohaoaiffneamaaW.PrintMore
set_option linter.unusedVariables false
set_option linter.unusedSimpArgs false


section law
variable {n : Nat} (hn8 : n ≤ 64) {l : List S80} {lo hi w : List Int} {width : Int} (hr : NeedsOk n l (lo, hi, 0)) (hw : WidthsOk n lo hi width (w, 0)) (h0 : 0 ≤ width) (h1 : width ≤ 31680) (hc : ∀ c ∈ l, Cell n c) (hl : l.length ≤ 20)
include hn8 hr hw h0 h1
theorem facts : (∀ j : Nat, rd lo (j : Int) ≤ rd w (j : Int)) ∧ (width ≤ tot hi → ∀ j : Nat, rd w (j : Int) ≤ rd hi (j : Int)) ∧ In 64000000 w ∧ (width = 0 → tot w = tot hi) ∧ (width ≠ 0 → tot w = mx width (tot lo)) := by
  have llo : lo.length = n := hr.llo
  have lhi : hi.length = n := hr.lhi
  have ilo : In 31680 lo := hr.ilo
  have ihi : In 31680 hi := hr.ihi
  have hle : Ge lo hi := hr.le
  have hwl : w.length = n := hw.len
  have htt : tot lo ≤ tot hi := by unfold tot; rw [llo, lhi]; exact sm_le (fun j _ => hle j)
  have bhi := tot_bd (by omega) (by omega) ihi (by omega)
  by_cases c1 : width = 0 ∨ width = tot hi
  · have hv := hw.most c1
    simp only at hv
    have ht := tot_eq lhi hwl hv
    refine ⟨fun j => by rw [hv j]; exact hle j, fun _ j => by rw [hv j]; exact Int.le_refl _, fun j => by rw [hv j]; have := ihi j; omega, fun _ => ht, fun hz => ?_⟩
    rw [ht]; unfold mx; split <;> omega
  · by_cases c2 : width ≤ tot lo
    · have hv := hw.least (by omega) (by omega) c2
      simp only at hv
      have ht := tot_eq llo hwl hv
      refine ⟨fun j => by rw [hv j]; exact Int.le_refl _, fun _ j => by rw [hv j]; exact hle j, fun j => by rw [hv j]; have := ilo j; omega, fun h => by omega, fun hz => ?_⟩
      rw [ht]; unfold mx; split <;> omega
    · by_cases c3 : tot hi < width
      · obtain ⟨s, sl, sp, st, hv⟩ := hw.over (by omega) (by omega) c3
        simp only at hv
        have ht := tot_add lhi sl hwl hv
        refine ⟨fun j => by rw [hv j]; have := hle j; have := sp j; omega, fun h => by omega, fun j => ?_, fun h => by omega, fun hz => ?_⟩
        · rw [hv j]
          have a := ihi j; have b := sp j
          by_cases hj : j < n
          · have hone : rd s (j : Int) ≤ sm (fun j => rd s (j : Int)) n := sm_one_le (f := fun j => rd s (j : Int)) (n := n) (i := j) (fun j _ => sp j) hj
            have e : sm (fun j => rd s (j : Int)) n = tot s := by unfold tot; rw [sl]
            omega
          · rw [rd_out (l := s) (by omega)]; omega
        · rw [ht, st]; unfold mx; split <;> omega
      · obtain ⟨s, ws, sl, wl, wv, hs, hv⟩ := hw.mid (by omega) (by omega) (by omega)
        simp only at hv
        have ht := tot_add llo sl hwl hv
        have htw := tot_sub lhi llo wl wv
        have hwi : In 31680 ws := fun j => by rw [wv j]; have a := ilo j; have b := ihi j; have c := hle j; omega
        have hb : ∀ j : Nat, rd s (j : Int) ≤ rd hi (j : Int) - rd lo (j : Int) := fun j => by
          by_cases hj : j < n
          · rw [hs.val (by omega) j (by omega), ← wv j]; exact shr_le hwi (by omega) (by omega) j
          · rw [rd_out (l := s) (by omega)]; have := hle j; omega
        refine ⟨fun j => by rw [hv j]; have := hs.pos j; omega, fun _ j => by rw [hv j]; have := hb j; omega, fun j => ?_, fun h => by omega, fun hz => ?_⟩
        · rw [hv j]; have a := ilo j; have b := hs.pos j; have c := hb j; have d := ihi j; omega
        · rw [ht, hs.sum]; unfold mx; split <;> omega
include hc hl in
theorem law_l2 (d : Nat) : ∀ i : Nat, i + d = l.length → EvP (fun k => ck_BalanceAddsUp.l2 k width w (tot lo) (tot hi) (tot w) l (l.length : Int) (i : Int)) (· = true) := by
  obtain ⟨f1, f2, f3, f4, f5⟩ := facts hn8 hr hw h0 h1
  have hwl : w.length = n := hw.len
  induction d with
  | zero =>
    intro i hi'
    refine EvP.step (fun k => by simp only [ck_BalanceAddsUp.l2]; rfl) (EvP.neg (by omega) ?_)
    refine EvP.ite (fun h => EvP.ret ?_) (fun h => EvP.ret ?_)
    · rw [f4 h]; simp
    · rw [f5 h]; simp
  | succ d ih =>
    intro i hi'
    have hm := mem_rd (l := l) (i := i) (by omega)
    have hcell := hc _ hm
    have hmin := hr.min _ hm
    simp only at hmin
    obtain ⟨⟨c1, c2, c3⟩, _⟩ := hcell
    have hmin2 : (rd_T80 l (i : Int)).f2 ≤ part w (rd_T80 l (i : Int)) := Int.le_trans hmin (part_le (fun j => f1 j) _)
    refine EvP.step (fun k => by simp only [ck_BalanceAddsUp.l2]; rfl) (EvP.pos (by omega) (EvP.pos (by omega) (EvP.pos (by omega) ?_)))
    generalize rd_T80 l (i : Int) = c at *
    rw [wz (n := c.f0 + c.f1) (by omega) (by omega)]
    refine EvP.pos c1 (EvP.pos (by omega) (EvP.pos (by omega) ?_))
    obtain ⟨a, ha⟩ : ∃ a : Nat, c.f0 = (a : Int) := ⟨c.f0.toNat, by omega⟩
    obtain ⟨m, hm2⟩ : ∃ m : Nat, c.f1 = (m : Int) := ⟨c.f1.toNat, by omega⟩
    have e1 : (c.f0 + c.f1).toNat = a + m := by omega
    have e0 : c.f0.toNat = a := by omega
    rw [e1, e0]
    have hp : part w c = sm (fun j => rd w ((a + j : Nat) : Int)) m := by unfold part; rw [e0, show c.f1.toNat = m by omega]
    rw [hp] at hmin2
    refine EvP.bind (EvP.ret (P := (· = (w.take (a + m)).drop a)) rfl) (fun y hy => ?_)
    subst hy
    have hyl : ((w.take (a + m)).drop a).length = m := by rw [List.length_drop, List.length_take]; omega
    have hyr : ∀ j : Nat, j < m → rd ((w.take (a + m)).drop a) (j : Int) = rd w ((a + j : Nat) : Int) := fun j hj => by
      rw [rd_nat, rd_nat, List.getElem?_drop, List.getElem?_take, if_pos (by omega)]
    have key : ∀ (e q : Nat), q + e = m → EvP (fun k => ck_BalanceAddsUp.l3 k width w (tot lo) (tot hi) (tot w) (sm (fun j => rd w ((a + j : Nat) : Int)) q) l (l.length : Int) (i : Int) ((w.take (a + m)).drop a) (m : Int) (q : Int) c.f0 c.f1 c.f2 c.f3) (· = true) := by
      intro e
      induction e with
      | zero =>
        intro q hq
        obtain rfl : q = m := by omega
        refine EvP.step (fun k => by simp only [ck_BalanceAddsUp.l3]; rfl) (EvP.neg (by omega) (EvP.neg (by omega) ?_))
        rw [wc (n := l.length) (by omega) (by omega)]
        exact ih (i + 1) (by omega)
      | succ e ihe =>
        intro q hq
        have s1 := sm_le (f := fun _ => 0) (g := fun j => rd w ((a + j : Nat) : Int)) (n := q) (fun j _ => (f3 _).1)
        have s2 := sm_le (f := fun j => rd w ((a + j : Nat) : Int)) (g := fun _ => 64000000) (n := q) (fun j _ => (f3 _).2)
        rw [sm_const] at s1 s2
        have b := f3 (a + q)
        have e3 : wrap64 (sm (fun j => rd w ((a + j : Nat) : Int)) q + rd w ((a + q : Nat) : Int)) = sm (fun j => rd w ((a + j : Nat) : Int)) (q + 1) := by rw [wz (by omega) (by omega)]; rfl
        refine EvP.step (fun k => by simp only [ck_BalanceAddsUp.l3]; rfl) (EvP.pos (by omega) (EvP.pos (by omega) (EvP.pos (by omega) ?_)))
        rw [hyr q (by omega), e3, wc (n := m) (by omega) (by omega)]
        exact ihe (q + 1) (by omega)
    rw [hyl]
    exact key m 0 (by omega)
include hc hl in
theorem law_l1 (d : Nat) : ∀ i : Nat, i + d = n → EvP (fun k => ck_BalanceAddsUp.l1 k l width lo hi w (tot lo) (tot hi) (tot w) (n : Int) (i : Int)) (· = true) := by
  obtain ⟨f1, f2, f3, f4, f5⟩ := facts hn8 hr hw h0 h1
  have hwl : w.length = n := hw.len
  have llo : lo.length = n := hr.llo
  have lhi : hi.length = n := hr.lhi
  induction d with
  | zero =>
    intro i hi'
    refine EvP.step (fun k => by simp only [ck_BalanceAddsUp.l1]; rfl) (EvP.neg (by omega) ?_)
    exact law_l2 hn8 hr hw h0 h1 hc hl l.length 0 (by omega)
  | succ d ih =>
    intro i hi'
    have a := f1 i
    refine EvP.step (fun k => by simp only [ck_BalanceAddsUp.l1]; rfl) (EvP.pos (by omega) (EvP.pos (by omega) (EvP.pos (by omega) (EvP.pos (by omega) (EvP.neg (by omega) ?_)))))
    rw [wc (n := n) (by omega) (by omega)]
    refine EvP.ite (fun h => EvP.pos (by omega) (EvP.neg (by have := f2 h i; omega) (ih (i + 1) (by omega)))) (fun h => ih (i + 1) (by omega))
include hc hl in
theorem law_l0 (d : Nat) : ∀ i : Nat, i + d = n → EvP (fun k => ck_BalanceAddsUp.l0 k l width lo hi w (sm (fun j => rd lo (j : Int)) i) (sm (fun j => rd hi (j : Int)) i) (sm (fun j => rd w (j : Int)) i) (n : Int) (i : Int)) (· = true) := by
  obtain ⟨f1, f2, f3, f4, f5⟩ := facts hn8 hr hw h0 h1
  have hwl : w.length = n := hw.len
  have llo : lo.length = n := hr.llo
  have lhi : hi.length = n := hr.lhi
  have ilo : In 31680 lo := hr.ilo
  have ihi : In 31680 hi := hr.ihi
  induction d with
  | zero =>
    intro i hi'
    obtain rfl : i = n := by omega
    refine EvP.step (fun k => by simp only [ck_BalanceAddsUp.l0]; rfl) (EvP.neg (by omega) ?_)
    rw [show sm (fun j => rd lo (j : Int)) i = tot lo by unfold tot; rw [llo], show sm (fun j => rd hi (j : Int)) i = tot hi by unfold tot; rw [lhi], show sm (fun j => rd w (j : Int)) i = tot w by unfold tot; rw [hwl], hwl]
    exact law_l1 hn8 hr hw h0 h1 hc hl i 0 (by omega)
  | succ d ih =>
    intro i hi'
    have a := ilo i; have b := ihi i; have c := f3 i
    have sa := sm_in ilo i; have sb := sm_in ihi i; have sc := sm_in f3 i
    have e1 : wrap64 (sm (fun j => rd lo (j : Int)) i + rd lo (i : Int)) = sm (fun j => rd lo (j : Int)) (i + 1) := by rw [wz (by omega) (by omega)]; rfl
    have e2 : wrap64 (sm (fun j => rd hi (j : Int)) i + rd hi (i : Int)) = sm (fun j => rd hi (j : Int)) (i + 1) := by rw [wz (by omega) (by omega)]; rfl
    have e3 : wrap64 (sm (fun j => rd w (j : Int)) i + rd w (i : Int)) = sm (fun j => rd w (j : Int)) (i + 1) := by rw [wz (by omega) (by omega)]; rfl
    refine EvP.step (fun k => by simp only [ck_BalanceAddsUp.l0]; rfl) (EvP.pos (by omega) (EvP.pos (by omega) (EvP.pos (by omega) (EvP.pos (by omega) (EvP.pos (by omega) ?_)))))
    rw [e1, e2, e3, wc (n := n) (by omega) (by omega)]
    exact ih (i + 1) (by omega)
end law
theorem BalanceAddsUp : BalanceAddsUp_Pure := by
  intro a0 a a2 w0 hw w2
  have b0 := bounds64 w0
  have b2 := bounds64 w2
  refine EvP.rounds (g := fun k => ck_BalanceAddsUp.f k a0 a a2) ?_
  unfold ck_BalanceAddsUp.f
  refine EvP.bind first_widths (fun t ht => ?_)
  subst ht
  refine EvP.pos rfl ?_
  refine EvP.bind first_equal (fun t ht => ?_)
  subst ht
  refine EvP.step (fun k => by simp only [ck_BalanceAddsUp.j0]; rfl) (EvP.neg (by simp) ?_)
  refine EvP.bind (within_ev b0 (by omega) (by omega) (by omega) (by omega)) (fun cols hcols => ?_)
  obtain ⟨n, rfl⟩ : ∃ n : Nat, cols = (n : Int) := ⟨cols.toNat, by omega⟩
  refine EvP.bind (cells_ok (n := n) (by omega) (by omega) hw.1) (fun l hl => ?_)
  refine EvP.bind (within_ev b2 (by omega) (by omega) (by omega) (by omega)) (fun width hwd => ?_)
  obtain ⟨r, hN, hr⟩ := Needs_ok (n := n) (l := l) (by omega) (by omega) (by omega) hl.2
  obtain ⟨lo, hi, e⟩ := r
  have he := hr.ok
  simp only at he
  subst he
  refine EvP.bind (EvP.ev hN) (fun t ht => ?_)
  subst ht
  refine EvP.bind (Widths_ok (by omega) (by omega) hr hN hwd.1 hwd.2) (fun r hwr => ?_)
  obtain ⟨w, e⟩ := r
  have he := hwr.ok
  simp only at he
  subst he
  have l1 : lo.length = n := hr.llo
  have l2 : hi.length = n := hr.lhi
  have l3 : w.length = n := hwr.len
  refine EvP.pos rfl (EvP.pos rfl (EvP.pos (by simp only; omega) (EvP.pos (by simp only; omega) ?_)))
  refine EvP.step (fun k => by simp only [ck_BalanceAddsUp.j1]; rfl) (EvP.neg (by simp [l2]) ?_)
  rw [l3]
  exact law_l0 (by omega) hr hwr hwd.1 hwd.2 hl.2 hl.1 n 0 (by omega)

end Go.Proofs.Ytohaoaiffneamaa.Pure
