/- What BalanceGrows computes is true, at all cells and widths: a wider table has no column that is narrower by more than rounding, as long as it lies between the least and the greatest widths. No condition beyond the kinds of the arguments. -/
import Derived.Test.YtohaoaiffneamaaPureBalance
import Derived.Test.YtohaoaiffneamaaTypBalanceGrows
import Derived.Test.YtohaoaiffneamaaQBalancex7
namespace Go.Proofs.Ytohaoaiffneamaa.Pure
open Go.RowKit Go.Proofs.Ytohaoaiffneamaa.QBalance Go.Proofs.YtohaoaiffneamaaW.PrintWords Go.Proofs.YtohaoaiffneamaaW.PrintLast Go.Proofs.YtohaoaiffneamaaW.PrintMore
set_option linter.unusedVariables false
set_option linter.unusedSimpArgs false


section law
variable {n : Nat} (hn8 : n ≤ 64) {l : List S80} {lo hi v w : List Int} {width more : Int} (hr : NeedsOk n l (lo, hi, 0)) (hv : WidthsOk n lo hi width (v, 0)) (hw : WidthsOk n lo hi more (w, 0)) (h0 : 1 ≤ tot lo) (h1 : tot lo ≤ width) (h2 : width ≤ more) (h3 : more ≤ tot hi)
include hn8 hr hv hw h0 h1 h2 h3
omit hn8 in
theorem grow (j : Nat) : rd v (j : Int) - 1 ≤ rd w (j : Int) ∧ 0 ≤ rd v (j : Int) ∧ rd v (j : Int) ≤ 64000000 := by
  have llo : lo.length = n := hr.llo
  have lhi : hi.length = n := hr.lhi
  have ilo : In 31680 lo := hr.ilo
  have ihi : In 31680 hi := hr.ihi
  have hle : Ge lo hi := hr.le
  have a := ilo j; have b := ihi j; have c := hle j
  by_cases c1 : width = tot hi
  · have hv1 := hv.most (.inr c1) j
    have hw1 := hw.most (.inr (by omega)) j
    simp only at hv1 hw1
    omega
  · by_cases c2 : width = tot lo
    · have hv1 := hv.least (by omega) c1 (by omega) j
      simp only at hv1
      by_cases d1 : more = tot hi
      · have hw1 := hw.most (.inr d1) j
        simp only at hw1
        omega
      · by_cases d2 : more ≤ tot lo
        · have hw1 := hw.least (by omega) d1 d2 j
          simp only at hw1
          omega
        · obtain ⟨s, ws, sl, wl, wv, hs, hx⟩ := hw.mid (by omega) (by omega) (by omega)
          have hw1 := hx j
          simp only at hw1
          have := hs.pos j
          omega
    · obtain ⟨s, ws, sl, wl, wv, hs, hx⟩ := hv.mid (by omega) (by omega) (by omega)
      have hv1 := hx j
      simp only at hv1
      have htw := tot_sub lhi llo wl wv
      have hwi : In 31680 ws := fun j => by rw [wv j]; have a := ilo j; have b := ihi j; have c := hle j; omega
      have sp := hs.pos j
      have sb : rd s (j : Int) ≤ rd hi (j : Int) - rd lo (j : Int) := by
        by_cases hj : j < n
        · rw [hs.val (by omega) j (by omega), ← wv j]; exact shr_le hwi (by omega) (by omega) j
        · rw [rd_out (l := s) (by omega)]; omega
      by_cases d1 : more = tot hi
      · have hw1 := hw.most (.inr d1) j
        simp only at hw1
        omega
      · obtain ⟨s2, ws2, sl2, wl2, wv2, hs2, hx2⟩ := hw.mid (by omega) (by omega) (by omega)
        have hw1 := hx2 j
        simp only at hw1
        have htw2 := tot_sub lhi llo wl2 wv2
        by_cases hj : j < n
        · have e1 := shr_between (N := width - tot lo) (v := ws) (by omega) j
          have e2 := shr_between (N := more - tot lo) (v := ws2) (by omega) j
          rw [← hs.val (by omega) j (by omega)] at e1
          rw [← hs2.val (by omega) j (by omega)] at e2
          rw [wv j] at e1
          rw [wv2 j] at e2
          have e3 : (width - tot lo) * (rd hi (j : Int) - rd lo (j : Int)) / tot ws ≤ (more - tot lo) * (rd hi (j : Int) - rd lo (j : Int)) / tot ws2 := by
            rw [htw, htw2]
            exact Int.ediv_le_ediv (by omega) (Int.mul_le_mul_of_nonneg_right (by omega) (by omega))
          omega
        · rw [rd_out (l := s) (by omega)] at hv1
          rw [rd_out (l := s2) (by omega)] at hw1
          omega
theorem law_l1 (d : Nat) : ∀ i : Nat, i + d = n → EvP (fun k => ck_BalanceGrows.l1 k v w (n : Int) (i : Int)) (· = true) := by
  have lv : v.length = n := hv.len
  have lw : w.length = n := hw.len
  induction d with
  | zero =>
    intro i hi'
    exact EvP.step (fun k => by simp only [ck_BalanceGrows.l1]; rfl) (EvP.neg (by omega) (EvP.ret rfl))
  | succ d ih =>
    intro i hi'
    have g := grow hr hv hw h0 h1 h2 h3 i
    refine EvP.step (fun k => by simp only [ck_BalanceGrows.l1]; rfl) (EvP.pos (by omega) (EvP.pos (by omega) (EvP.pos (by omega) (EvP.pos (by omega) ?_))))
    rw [wz (n := rd v (i : Int) - 1) (by omega) (by omega), wc (n := n) (by omega) (by omega)]
    exact EvP.neg (by omega) (ih (i + 1) (by omega))
end law
section law2
variable {n : Nat} (hn1 : 1 ≤ n) (hn8 : n ≤ 64) {l : List S80} {lo hi : List Int} (hr : NeedsOk n l (lo, hi, 0)) (hN : Ev (fun k => balance_Needs.f k (n : Int) l) (lo, hi, 0)) {a2 a3 : Int} (b2 : -9223372036854775808 ≤ a2 ∧ a2 ≤ 9223372036854775807) (b3 : -9223372036854775808 ≤ a3 ∧ a3 ≤ 9223372036854775807)
include hn1 hn8 hr hN b2 b3
theorem law_j2 (h1 : 1 ≤ tot lo) : EvP (fun k => ck_BalanceGrows.j2 k (n : Int) l a2 a3 (tot lo) (tot hi) (decide (tot hi > 31680))) (· = true) := by
  have llo : lo.length = n := hr.llo
  have lhi : hi.length = n := hr.lhi
  have hle : Ge lo hi := hr.le
  have htt : tot lo ≤ tot hi := by unfold tot; rw [llo, lhi]; exact sm_le (fun j _ => hle j)
  refine EvP.step (fun k => by simp only [ck_BalanceGrows.j2]; rfl) ?_
  refine EvP.ite (fun h => EvP.ret rfl) (fun h => ?_)
  have hhi : tot hi ≤ 31680 := by simpa using h
  refine EvP.bind (within_ev b2 htt (by omega) (by omega) (by omega)) (fun width hwd => ?_)
  refine EvP.bind (within_ev b3 hwd.2 (by omega) (by omega) (by omega)) (fun more hm => ?_)
  refine EvP.bind (Widths_ok hn1 hn8 hr hN (width := width) (by omega) (by omega)) (fun r hv => ?_)
  refine EvP.bind (Widths_ok hn1 hn8 hr hN (width := more) (by omega) (by omega)) (fun s hw => ?_)
  obtain ⟨v, e⟩ := r
  have he := hv.ok
  simp only at he
  subst he
  obtain ⟨w, e⟩ := s
  have he := hw.ok
  simp only at he
  subst he
  have lv : v.length = n := hv.len
  have lw : w.length = n := hw.len
  refine EvP.pos rfl (EvP.pos rfl (EvP.pos (by simp only; omega) ?_))
  refine EvP.step (fun k => by simp only [ck_BalanceGrows.j3]; rfl) (EvP.neg (by simp [lw]) ?_)
  rw [lv]
  exact law_l1 hn8 hr hv hw h1 hwd.1 hm.1 hm.2 n 0 (by omega)
theorem law_l0 (d : Nat) : ∀ i : Nat, i + d = n → EvP (fun k => ck_BalanceGrows.l0 k (n : Int) l a2 a3 lo hi (sm (fun j => rd lo (j : Int)) i) (sm (fun j => rd hi (j : Int)) i) (n : Int) (i : Int)) (· = true) := by
  have llo : lo.length = n := hr.llo
  have lhi : hi.length = n := hr.lhi
  have ilo : In 31680 lo := hr.ilo
  have ihi : In 31680 hi := hr.ihi
  induction d with
  | zero =>
    intro i hi'
    obtain rfl : i = n := by omega
    refine EvP.step (fun k => by simp only [ck_BalanceGrows.l0]; rfl) (EvP.neg (by omega) ?_)
    rw [show sm (fun j => rd lo (j : Int)) i = tot lo by unfold tot; rw [llo], show sm (fun j => rd hi (j : Int)) i = tot hi by unfold tot; rw [lhi]]
    refine EvP.ite (fun h => ?_) (fun h => law_j2 hn1 hn8 hr hN b2 b3 (by omega))
    exact EvP.step (fun k => by simp only [ck_BalanceGrows.j2]; rfl) (EvP.pos (by simp) (EvP.ret rfl))
  | succ d ih =>
    intro i hi'
    have a := ilo i; have b := ihi i
    have sa := sm_in ilo i; have sb := sm_in ihi i
    have e1 : wrap64 (sm (fun j => rd lo (j : Int)) i + rd lo (i : Int)) = sm (fun j => rd lo (j : Int)) (i + 1) := by rw [wz (by omega) (by omega)]; rfl
    have e2 : wrap64 (sm (fun j => rd hi (j : Int)) i + rd hi (i : Int)) = sm (fun j => rd hi (j : Int)) (i + 1) := by rw [wz (by omega) (by omega)]; rfl
    refine EvP.step (fun k => by simp only [ck_BalanceGrows.l0]; rfl) (EvP.pos (by omega) (EvP.pos (by omega) (EvP.pos (by omega) (EvP.pos (by omega) ?_))))
    rw [e1, e2, wc (n := n) (by omega) (by omega)]
    exact ih (i + 1) (by omega)
end law2
theorem BalanceGrows : BalanceGrows_Pure := by
  intro a0 a a2 a3 w0 hw w2 w3
  have b0 := bounds64 w0
  have b2 := bounds64 w2
  have b3 := bounds64 w3
  refine EvP.rounds (g := fun k => ck_BalanceGrows.f k a0 a a2 a3) ?_
  unfold ck_BalanceGrows.f
  refine EvP.bind first_widths (fun t ht => ?_)
  subst ht
  refine EvP.pos rfl ?_
  refine EvP.bind first_equal (fun t ht => ?_)
  subst ht
  refine EvP.step (fun k => by simp only [ck_BalanceGrows.j0]; rfl) (EvP.neg (by simp) ?_)
  refine EvP.bind (within_ev b0 (by omega) (by omega) (by omega) (by omega)) (fun cols hcols => ?_)
  obtain ⟨n, rfl⟩ : ∃ n : Nat, cols = (n : Int) := ⟨cols.toNat, by omega⟩
  refine EvP.bind (cells_ok (n := n) (by omega) (by omega) hw.1) (fun l hl => ?_)
  obtain ⟨r, hN, hr⟩ := Needs_ok (n := n) (l := l) (by omega) (by omega) (by omega) hl.2
  obtain ⟨lo, hi, e⟩ := r
  have he := hr.ok
  simp only at he
  subst he
  refine EvP.bind (EvP.ev hN) (fun t ht => ?_)
  subst ht
  have llo : lo.length = n := hr.llo
  refine EvP.pos rfl ?_
  simp only
  rw [llo]
  exact law_l0 (by omega) (by omega) hr hN b2 b3 n 0 (by omega)

end Go.Proofs.Ytohaoaiffneamaa.Pure
