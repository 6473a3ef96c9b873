-- Written by a program of this session (myprint.py) for this claim: contracts of the functions that the law reaches. Not trusted: Lean checks it.
import Derived.Test.YtohaoaiffneamaaDoorQBreaksx0
namespace Go.Proofs.YtohaoaiffneamaaDoor.QBreaks
open Go.RowKit Go.Proofs.YtohaoaiffneamaaDoorW.PrintWords Go.Proofs.YtohaoaiffneamaaDoorW.PrintLast Go.Proofs.YtohaoaiffneamaaDoorW.PrintMore
attribute [local go_sem] cell_set2 cell_set2d max2_int min2_int max_two min_two max_three min_three max_four min_four   -- for this text's walks alone
set_option linter.unusedVariables false
set_option linter.unusedSimpArgs false

/-! ### ck_within: function 13 -/
def ck_within.f (a0 : Int) (a1 : Int) (a2 : Int) : Option (Int) := if (wrap64 ((wrap64 (a2 - a1)) + 1)) = 0 then (none) else (some (wrap64 (a1 + (Int.tmod (wrap64 ((Int.tmod a0 (wrap64 ((wrap64 (a2 - a1)) + 1))) + (wrap64 ((wrap64 (a2 - a1)) + 1)))) (wrap64 ((wrap64 (a2 - a1)) + 1))))))
set_option maxHeartbeats 8000000 in
set_option maxRecDepth 100000 in
theorem ck_within.calls (a0 : Int) (a1 : Int) (a2 : Int) (r : Int) (w : World) (h : ck_within.f a0 a1 a2 = some r) :
  Calls Tryd.prog 13 #[.int .i64 a0, .int .i64 a1, .int .i64 a2] w fun e w' => e = .returned (.int .i64 r) ∧ Drawn0 w w' := by
 have H : (if (wrap64 ((wrap64 (a2 - a1)) + 1)) = 0 then (none) else (some (wrap64 (a1 + (Int.tmod (wrap64 ((Int.tmod a0 (wrap64 ((wrap64 (a2 - a1)) + 1))) + (wrap64 ((wrap64 (a2 - a1)) + 1)))) (wrap64 ((wrap64 (a2 - a1)) + 1))))))) = some r := h
 clear h
 by_cases c4 : (wrap64 ((wrap64 (a2 - a1)) + 1)) = 0
 ·rw [if_pos c4] at H
  exact absurd H (by simp)
 ·rw [if_neg c4] at H
  have c4b0 : ((wrap64 ((wrap64 (a2 - a1)) + 1)) == 0) = false := beq_eq_false_iff_ne.mpr c4
  have c4b1 : ((wrap64 ((wrap64 (a2 - a1)) + 1)) != 0) = true := bne_iff_ne.mpr c4
  obtain rfl := Option.some.inj H
  go_enter Tryd.func13, Tryd.ntmps13
  go_wp2
  go_ret
  exact ⟨by first | rfl | (simp; done) | (simp [*]; done), by repeat (first | exact Drawn0.refl _ | apply Drawn0.step)⟩

/-! ### ck_chars: function 9 -/
def ck_chars.l0 : Nat → List Int → Int → List Int → Int → Option (List Int)
 | 0, _, _, _, _ => none
 | k + 1, x0, x1, x5, x6 => if x6 < (x0.length : Int) then (if x6 < x1 then (if 0 ≤ x6 then ((ck_within.f (rd x0 x6) 0 1114111).bind fun t102 => (if x5.length < 17592186044416 then (ck_chars.l0 k x0 x1 (x5 ++ [t102]) (wrap64 (x6 + 1))) else (none))) else (none)) else (some x5)) else (some x5)
def ck_chars.f (k : Nat) (l0 : List Int) (a1 : Int) : Option (List Int) := ck_chars.l0 k l0 a1 ([] : List Int) 0
theorem ck_chars.mono_l : ∀ k, (∀ y0 y1 y2 y3, LeO (ck_chars.l0 k y0 y1 y2 y3) (ck_chars.l0 (k + 1) y0 y1 y2 y3))
 | 0 => fun _ _ _ _ r h => by simp [ck_chars.l0] at h
 | k + 1 => by
  have ih0 := ck_chars.mono_l k
  ·intro y0 y1 y2 y3
   unfold ck_chars.l0
   repeat' first
   | (with_reducible exact ih0 _ _ _ _)
   | (with_reducible exact LeO.refl _)
   | (with_reducible exact LeO.none _)
   | (with_reducible refine LeO.ite ?_ ?_)
   | (with_reducible refine LeO.bind ?_ (fun _ => ?_))
   | exact ih0 _ _ _ _
   | exact LeO.none _
   | refine LeO.ite ?_ ?_
   | refine LeO.bind ?_ (fun _ => ?_)
theorem ck_chars.mono : ∀ a0 a1 k, LeO (ck_chars.f k a0 a1) (ck_chars.f (k + 1) a0 a1) := by
 intro a0 a1 k
 have ih0 := ck_chars.mono_l k
 unfold ck_chars.f
 repeat' first
   | (with_reducible exact ih0 _ _ _ _)
   | (with_reducible exact LeO.refl _)
   | (with_reducible exact LeO.none _)
   | (with_reducible refine LeO.ite ?_ ?_)
   | (with_reducible refine LeO.bind ?_ (fun _ => ?_))
   | exact ih0 _ _ _ _
   | exact LeO.none _
   | refine LeO.ite ?_ ?_
   | refine LeO.bind ?_ (fun _ => ?_)
set_option maxHeartbeats 8000000 in
set_option maxRecDepth 100000 in
theorem ck_chars.calls (k : Nat) (A0 : Option Addr) (c0 : Nat) (l0 : List Int) (a1 : Int) (r : List Int) (w : World) (hr0 : Kd.C (Kd.int .i64) w A0 l0.length l0) (hc0 : l0.length ≤ c0) (h : ck_chars.f k l0 a1 = some r) :
  Calls Tryd.prog 9 #[.slice A0 l0.length c0, .int .i64 a1] w fun e w' => ∃ v0_ : Value, e = .returned (v0_) ∧ Kd.R (Kd.int .i64) 3 w' w.heap.size (fun _ => True) v0_ r ∧ Below w.heap.size w w' := by
 have HR0 := Aside0.mk hr0
 have HC0 := Aside0.mk hc0
 clear hr0 hc0
 have HB := Aside0.mk (Below.refl w.heap.size w)
 have H : (ck_chars.l0 k l0 a1 ([] : List Int) 0) = some r := h
 clear h
 have H' := Aside0.mk H
 clear H
 go_enter Tryd.func9, Tryd.ntmps9
 go_wp2
 go_loopg [5, 6] k (fun kq v5 v6 w' => ∃ (x5_1 : List Int) (x6_1 : Int), v6 = .int .i64 x6_1 ∧ Aside0 (ck_chars.l0 kq l0 a1 x5_1 x6_1 = some r) ∧ Aside0 (kq ≤ k) ∧ Aside0 (Kd.R (Kd.int .i64) 3 w' w.heap.size (fun _ => True) v5 x5_1) ∧ Aside0 (Below w.heap.size w w'))
 case atStart => exact ⟨(([] : List Int)), (0), (by first | rfl | (simp; done) | (simp [*]; done)), H', ⟨Nat.le_refl _⟩, ⟨by first | exact Kd.R_nil _ _ _ _ _ | exact Kd.N_nil _ _ _ _ _ | exact Kd.V_nil _ _ _ _ _ | exact Kd.Q_nil _ _ _ _ _ | exact Kd.S_nil _ _ _ _ _⟩, ⟨by repeat (first | (with_reducible first | exact HB.out | apply below_alloc | apply pw_below_drewN | apply below_drew1) | exact HB.out)⟩⟩
 case round =>
  clear H'
  try clear p2
  obtain ⟨x5_1, x6_1, rfl, HA, HK1, HO_5, HB⟩ := hrel
  cases gk with
  | zero => exact absurd HA.out (by simp [ck_chars.l0])
  | succ k1 =>
   have H := HA.out
   clear HA
   simp only [ck_chars.l0] at H
   by_cases c3 : x6_1 < (l0.length : Int)
   ·rw [if_pos c3] at H
    have c3b0 : decide (x6_1 < (l0.length : Int)) = true := decide_eq_true c3
    clear c3
    by_cases c4 : x6_1 < a1
    ·rw [if_pos c4] at H
     have c4b0 : decide (x6_1 < a1) = true := decide_eq_true c4
     clear c4
     by_cases c5 : 0 ≤ x6_1
     ·rw [if_pos c5] at H
      have c5b0 : decide (0 ≤ x6_1) = true := decide_eq_true c5
      clear c5
      replace H := Option.bind_eq_some_iff.mp H
      obtain ⟨t102, A60, H⟩ := H
      replace H : (if x5_1.length < 17592186044416 then (ck_chars.l0 k1 l0 a1 (x5_1 ++ [t102]) (wrap64 (x6_1 + 1))) else (none)) = some r := H
      have A6 := Aside0.mk A60
      clear A60
      by_cases c7 : x5_1.length < 17592186044416
      ·rw [if_pos c7] at H
       have LMc7 := Aside0.mk c7
       clear c7
       obtain ⟨y103, hy103⟩ : ∃ y_ : List Int, y_ = (x5_1 ++ [t102]) := ⟨_, rfl⟩
       replace H : (ck_chars.l0 k1 l0 a1 y103 (wrap64 (x6_1 + 1))) = some r := by first | (rw [hy103]; with_reducible exact H) | (have H2_ := (Option.bind_some _ _).symm.trans H; rw [hy103]; with_reducible exact H2_) | (have H2_ := (Option.bind_some _ _).symm.trans H; with_reducible exact H2_) | with_reducible exact H | (rw [hy103]; exact H) | exact H
       have Ny103 := Aside0.mk hy103
       clear hy103
       have H' := Aside0.mk H
       clear H
       have p101 : 0 ≤ (x6_1 : Int) := of_decide_eq_true (by first | (with_reducible assumption) | assumption)
       have q101 : x6_1 < (l0.length : Int) := of_decide_eq_true (by first | (with_reducible assumption) | assumption)
       obtain ⟨ad101, e101, hx101_0⟩ := Kd.at_int HR0.out x6_1 p101 q101
       cases e101
       replace hx101_0 := (HB.out.cell (World.block_lt_of_cell? w _ hx101_0)).trans hx101_0
       replace p101 := eq_true p101
       replace q101 := eq_true q101
       go_wp2_with (first | ((with_reducible refine gate_callee (f := 13) rfl ?_); refine goesL_ (some 23) rfl rfl Tryd.func13 (by kernel_rfl) rfl #[.int .i64 (rd l0 x6_1), .int .i64 0, .int .i64 1114111] rfl (by (try simp only [List.map_toArray, List.map_cons, List.map_nil]); first | done | rfl | (simp only [List.length_drop, List.length_take]; rfl)) ?_; (with_reducible refine (ck_within.calls (rd l0 x6_1) 0 1114111 t102 _ A6.out).mono ?_); rintro e w' ⟨rfl, ⟨nd, rfl⟩⟩; refine ⟨_, rfl, ?_⟩) | ((with_reducible refine gate_builtin (b := .append) (xs := #[.tmp 18, .tmp 24]) rfl ?_); at_builtin; refine Kd.R_append (Kd.int .i64) (w0 := w) w.heap.size rfl (.tmp 18) (.tmp 24) 22 3 (.int .i64 0) 8 rfl Tryd.underlying22 info3 rfl (by decide) (by omega) u5 x5_1 t102 [.int .i64 t102] (fun _ => True) (fun _ => False) rfl rfl ?aP (fun _ hk => hk.elim) ?aF ?aO ?aB ?aS ?aL ?_; (case aP => exact rfl); (case aB => exact (by repeat (first | (with_reducible first | exact HB.out | apply below_alloc | apply pw_below_drewN | apply below_drew1) | exact HB.out))); (case aF => exact (fun _ _ => trivial)); (case aO => exact (by (with_reducible repeat (first | apply Kd.R_alloc | apply Kd.R_drewN | apply Kd.R_drew)); exact HO_5.out)); (case aS => exact (below_size (by repeat (first | (with_reducible first | exact HB.out | apply below_alloc | apply pw_below_drewN | apply below_drew1) | exact HB.out)))); (case aL => have := LMc7.out; omega); intro v104 w8 ho hb hg hat; rw [← Ny103.out] at ho; have n0_ := Aside0.mk (hb); have n1_ := Aside0.mk (ho); clear HB; clear HO_5; have HB := n0_; have HO105 := n1_; clear n0_ n1_; clear ho hb hg hat))
       go_roundg k1
       case measure => have := HK1.out; omega
       case rel => exact ⟨(y103), (wrap64 (x6_1 + 1)), (by first | rfl | (simp; done) | (simp [*]; done)), H', ⟨by have := HK1.out; omega⟩, ⟨by (with_reducible repeat (first | apply Kd.R_alloc | apply Kd.R_drewN | apply Kd.R_drew)); exact HO105.out⟩, ⟨by repeat (first | (with_reducible first | exact HB.out | apply below_alloc | apply pw_below_drewN | apply below_drew1) | exact HB.out)⟩⟩
      ·rw [if_neg c7] at H
       exact absurd H (by simp)
     ·rw [if_neg c5] at H
      exact absurd H (by simp)
    ·rw [if_neg c4] at H
     have c4b0 : decide (x6_1 < a1) = false := decide_eq_false c4
     clear c4
     obtain rfl := Option.some.inj H
     go_wp2
     go_ret
     exact ⟨_, by first | rfl | (simp [errW_none, errW_some] <;> rfl) | (simp [*, errW_none, errW_some] <;> rfl), by (with_reducible repeat (first | apply Kd.R_alloc | apply Kd.R_drewN | apply Kd.R_drew)); exact HO_5.out, by repeat (first | (with_reducible first | exact HB.out | apply below_alloc | apply pw_below_drewN | apply below_drew1) | exact HB.out)⟩
   ·rw [if_neg c3] at H
    have c3b0 : decide (x6_1 < (l0.length : Int)) = false := decide_eq_false c3
    clear c3
    obtain rfl := Option.some.inj H
    go_wp2
    go_ret
    exact ⟨_, by first | rfl | (simp [errW_none, errW_some] <;> rfl) | (simp [*, errW_none, errW_some] <;> rfl), by (with_reducible repeat (first | apply Kd.R_alloc | apply Kd.R_drewN | apply Kd.R_drew)); exact HO_5.out, by repeat (first | (with_reducible first | exact HB.out | apply below_alloc | apply pw_below_drewN | apply below_drew1) | exact HB.out)⟩

/-! ### breaks_check: function 30 -/
def breaks_check.l0 : Nat → List Int → Int → Int → Option (Int)
 | 0, _, _, _ => none
 | k + 1, x5, x6, x7 => if x7 < x6 then (if 0 ≤ x7 then (if x7 < (x5.length : Int) then (if (rd x5 x7) < 0 then (some 2) else (if (rd x5 x7) > 1114111 then (some 2) else (breaks_check.l0 k x5 x6 (wrap64 (x7 + 1))))) else (none)) else (none)) else (some 0)
def breaks_check.f (k : Nat) (l0 : List Int) : Option (Int) := breaks_check.l0 k l0 (l0.length : Int) 0
theorem breaks_check.mono_l : ∀ k, (∀ y0 y1 y2, LeO (breaks_check.l0 k y0 y1 y2) (breaks_check.l0 (k + 1) y0 y1 y2))
 | 0 => fun _ _ _ r h => by simp [breaks_check.l0] at h
 | k + 1 => by
  have ih0 := breaks_check.mono_l k
  ·intro y0 y1 y2
   unfold breaks_check.l0
   repeat' first
   | (with_reducible exact ih0 _ _ _)
   | (with_reducible exact LeO.refl _)
   | (with_reducible exact LeO.none _)
   | (with_reducible refine LeO.ite ?_ ?_)
   | (with_reducible refine LeO.bind ?_ (fun _ => ?_))
   | exact ih0 _ _ _
   | exact LeO.none _
   | refine LeO.ite ?_ ?_
   | refine LeO.bind ?_ (fun _ => ?_)
theorem breaks_check.mono : ∀ a0 k, LeO (breaks_check.f k a0) (breaks_check.f (k + 1) a0) := by
 intro a0 k
 have ih0 := breaks_check.mono_l k
 unfold breaks_check.f
 repeat' first
   | (with_reducible exact ih0 _ _ _)
   | (with_reducible exact LeO.refl _)
   | (with_reducible exact LeO.none _)
   | (with_reducible refine LeO.ite ?_ ?_)
   | (with_reducible refine LeO.bind ?_ (fun _ => ?_))
   | exact ih0 _ _ _
   | exact LeO.none _
   | refine LeO.ite ?_ ?_
   | refine LeO.bind ?_ (fun _ => ?_)
set_option maxHeartbeats 8000000 in
set_option maxRecDepth 100000 in
theorem breaks_check.calls (k : Nat) (A0 : Option Addr) (c0 : Nat) (l0 : List Int) (r : Int) (w : World) (hr0 : Kd.C (Kd.int .i64) w A0 l0.length l0) (hc0 : l0.length ≤ c0) (h : breaks_check.f k l0 = some r) :
  Calls Tryd.prog 30 #[.slice A0 l0.length c0] w fun e w' => e = .returned (.int .i64 r) ∧ Drawn0 w w' := by
 have HR0 := Aside0.mk hr0
 have HC0 := Aside0.mk hc0
 clear hr0 hc0
 have H : (breaks_check.l0 k l0 (l0.length : Int) 0) = some r := h
 clear h
 have H' := Aside0.mk H
 clear H
 go_enter Tryd.func30, Tryd.ntmps30
 go_wp2
 go_loopg [7] k (fun kq v7 w' => ∃ (x7_1 : Int), v7 = .int .i64 x7_1 ∧ Aside0 (breaks_check.l0 kq l0 (l0.length : Int) x7_1 = some r) ∧ Aside0 (kq ≤ k) ∧ Drawn0 w w')
 case atStart => exact ⟨(0), (by first | rfl | (simp; done) | (simp [*]; done)), H', ⟨Nat.le_refl _⟩, by repeat (first | exact Drawn0.refl _ | apply Drawn0.step)⟩
 case round =>
  clear H'
  obtain ⟨x7_1, rfl, HA, HK1, ⟨m1, rfl⟩⟩ := hrel
  cases gk with
  | zero => exact absurd HA.out (by simp [breaks_check.l0])
  | succ k1 =>
   have H := HA.out
   clear HA
   simp only [breaks_check.l0] at H
   by_cases c2 : x7_1 < (l0.length : Int)
   ·rw [if_pos c2] at H
    have c2b0 : decide (x7_1 < (l0.length : Int)) = true := decide_eq_true c2
    clear c2
    by_cases c3 : 0 ≤ x7_1
    ·rw [if_pos c3] at H
     have c3b0 : decide (0 ≤ x7_1) = true := decide_eq_true c3
     clear c3
     by_cases c4 : x7_1 < (l0.length : Int)
     ·rw [if_pos c4] at H
      have c4b0 : decide (x7_1 < (l0.length : Int)) = true := decide_eq_true c4
      clear c4
      by_cases c5 : (rd l0 x7_1) < 0
      ·rw [if_pos c5] at H
       have c5b0 : decide ((rd l0 x7_1) < 0) = true := decide_eq_true c5
       clear c5
       obtain rfl := Option.some.inj H
       have p106 : 0 ≤ (x7_1 : Int) := of_decide_eq_true (by first | (with_reducible assumption) | assumption)
       have q106 : x7_1 < (l0.length : Int) := of_decide_eq_true (by first | (with_reducible assumption) | assumption)
       obtain ⟨ad106, e106, hx106_0⟩ := Kd.at_int HR0.out x7_1 p106 q106
       cases e106
       replace p106 := eq_true p106
       replace q106 := eq_true q106
       go_wp2
       go_ret
       exact ⟨by first | rfl | (simp; done) | (simp [*]; done), by repeat (first | exact Drawn0.refl _ | apply Drawn0.step)⟩
      ·rw [if_neg c5] at H
       have c5b0 : decide ((rd l0 x7_1) < 0) = false := decide_eq_false c5
       clear c5
       by_cases c6 : (rd l0 x7_1) > 1114111
       ·rw [if_pos c6] at H
        have c6b0 : decide (1114111 < (rd l0 x7_1)) = true := decide_eq_true c6
        clear c6
        obtain rfl := Option.some.inj H
        have p106 : 0 ≤ (x7_1 : Int) := of_decide_eq_true (by first | (with_reducible assumption) | assumption)
        have q106 : x7_1 < (l0.length : Int) := of_decide_eq_true (by first | (with_reducible assumption) | assumption)
        obtain ⟨ad106, e106, hx106_0⟩ := Kd.at_int HR0.out x7_1 p106 q106
        cases e106
        replace p106 := eq_true p106
        replace q106 := eq_true q106
        go_wp2
        go_ret
        exact ⟨by first | rfl | (simp; done) | (simp [*]; done), by repeat (first | exact Drawn0.refl _ | apply Drawn0.step)⟩
       ·rw [if_neg c6] at H
        have c6b0 : decide (1114111 < (rd l0 x7_1)) = false := decide_eq_false c6
        clear c6
        have H' := Aside0.mk H
        clear H
        have p106 : 0 ≤ (x7_1 : Int) := of_decide_eq_true (by first | (with_reducible assumption) | assumption)
        have q106 : x7_1 < (l0.length : Int) := of_decide_eq_true (by first | (with_reducible assumption) | assumption)
        obtain ⟨ad106, e106, hx106_0⟩ := Kd.at_int HR0.out x7_1 p106 q106
        cases e106
        replace p106 := eq_true p106
        replace q106 := eq_true q106
        go_wp2
        go_roundg k1
        case measure => have := HK1.out; omega
        case rel => exact ⟨(wrap64 (x7_1 + 1)), (by first | rfl | (simp; done) | (simp [*]; done)), H', ⟨by have := HK1.out; omega⟩, by repeat (first | exact Drawn0.refl _ | apply Drawn0.step)⟩
     ·rw [if_neg c4] at H
      exact absurd H (by simp)
    ·rw [if_neg c3] at H
     exact absurd H (by simp)
   ·rw [if_neg c2] at H
    have c2b0 : decide (x7_1 < (l0.length : Int)) = false := decide_eq_false c2
    clear c2
    obtain rfl := Option.some.inj H
    go_wp2
    go_ret
    exact ⟨by first | rfl | (simp; done) | (simp [*]; done), by repeat (first | exact Drawn0.refl _ | apply Drawn0.step)⟩

/-! ### metric_within: function 43 -/
def metric_within.l0 : Nat → Int → List (S98) → Int → Int → Option (Int × Bool)
 | 0, _, _, _, _ => none
 | k + 1, x1, x8, x9, x10 => if x10 < x9 then (if 0 ≤ x10 then (if x10 < (x8.length : Int) then (if x1 ≥ ((rd_T98 x8 x10).f0) then (if x1 ≤ ((rd_T98 x8 x10).f1) then (some ((rd_T98 x8 x10).f2, true)) else (metric_within.l0 k x1 x8 x9 (wrap64 (x10 + 1)))) else (metric_within.l0 k x1 x8 x9 (wrap64 (x10 + 1)))) else (none)) else (none)) else (some (0, false))
def metric_within.f (k : Nat) (l0 : List (S98)) (a1 : Int) : Option (Int × Bool) := metric_within.l0 k a1 l0 (l0.length : Int) 0
theorem metric_within.mono_l : ∀ k, (∀ y0 y1 y2 y3, LeO (metric_within.l0 k y0 y1 y2 y3) (metric_within.l0 (k + 1) y0 y1 y2 y3))
 | 0 => fun _ _ _ _ r h => by simp [metric_within.l0] at h
 | k + 1 => by
  have ih0 := metric_within.mono_l k
  ·intro y0 y1 y2 y3
   unfold metric_within.l0
   repeat' first
   | (with_reducible exact ih0 _ _ _ _)
   | (with_reducible exact LeO.refl _)
   | (with_reducible exact LeO.none _)
   | (with_reducible refine LeO.ite ?_ ?_)
   | (with_reducible refine LeO.bind ?_ (fun _ => ?_))
   | exact ih0 _ _ _ _
   | exact LeO.none _
   | refine LeO.ite ?_ ?_
   | refine LeO.bind ?_ (fun _ => ?_)
theorem metric_within.mono : ∀ a0 a1 k, LeO (metric_within.f k a0 a1) (metric_within.f (k + 1) a0 a1) := by
 intro a0 a1 k
 have ih0 := metric_within.mono_l k
 unfold metric_within.f
 repeat' first
   | (with_reducible exact ih0 _ _ _ _)
   | (with_reducible exact LeO.refl _)
   | (with_reducible exact LeO.none _)
   | (with_reducible refine LeO.ite ?_ ?_)
   | (with_reducible refine LeO.bind ?_ (fun _ => ?_))
   | exact ih0 _ _ _ _
   | exact LeO.none _
   | refine LeO.ite ?_ ?_
   | refine LeO.bind ?_ (fun _ => ?_)
set_option maxHeartbeats 8000000 in
set_option maxRecDepth 100000 in
theorem metric_within.calls (k : Nat) (A0 : Option Addr) (c0 : Nat) (l0 : List (S98)) (a1 : Int) (r1 : Int) (r2 : Bool) (w : World) (hr0 : Kd.C k98 w A0 l0.length l0) (hc0 : l0.length ≤ c0) (h : metric_within.f k l0 a1 = some (r1, r2)) :
  Calls Tryd.prog 43 #[.slice A0 l0.length c0, .int .i64 a1] w fun e w' => e = .returned (.tuple #[.int .i64 r1, .bool r2]) ∧ Below w.heap.size w w' := by
 have hu98 := Tryd.underlying98
 have HR0 := Aside0.mk hr0
 have HC0 := Aside0.mk hc0
 clear hr0 hc0
 have HB := Aside0.mk (Below.refl w.heap.size w)
 have H : (metric_within.l0 k a1 l0 (l0.length : Int) 0) = some (r1, r2) := h
 clear h
 have H' := Aside0.mk H
 clear H
 go_enter Tryd.func43, Tryd.ntmps43
 go_wp2
 go_loopg [10] k (fun kq v10 w' => ∃ (x10_1 : Int), v10 = .int .i64 x10_1 ∧ Aside0 (metric_within.l0 kq a1 l0 (l0.length : Int) x10_1 = some (r1, r2)) ∧ Aside0 (kq ≤ k) ∧ Aside0 (Below w.heap.size w w'))
 case atStart => exact ⟨(0), (by first | rfl | (simp; done) | (simp [*]; done)), H', ⟨Nat.le_refl _⟩, ⟨by repeat (first | (with_reducible first | exact HB.out | apply below_alloc | apply pw_below_drewN | apply below_drew1) | exact HB.out)⟩⟩
 case round =>
  clear H'
  try clear p2
  obtain ⟨x10_1, rfl, HA, HK1, HB⟩ := hrel
  cases gk with
  | zero => exact absurd HA.out (by simp [metric_within.l0])
  | succ k1 =>
   have H := HA.out
   clear HA
   simp only [metric_within.l0] at H
   by_cases c3 : x10_1 < (l0.length : Int)
   ·rw [if_pos c3] at H
    have c3b0 : decide (x10_1 < (l0.length : Int)) = true := decide_eq_true c3
    clear c3
    by_cases c4 : 0 ≤ x10_1
    ·rw [if_pos c4] at H
     have c4b0 : decide (0 ≤ x10_1) = true := decide_eq_true c4
     clear c4
     by_cases c5 : x10_1 < (l0.length : Int)
     ·rw [if_pos c5] at H
      have c5b0 : decide (x10_1 < (l0.length : Int)) = true := decide_eq_true c5
      clear c5
      by_cases c6 : a1 ≥ ((rd_T98 l0 x10_1).f0)
      ·rw [if_pos c6] at H
       have c6b0 : decide (((rd_T98 l0 x10_1).f0) ≤ a1) = true := decide_eq_true c6
       clear c6
       by_cases c7 : a1 ≤ ((rd_T98 l0 x10_1).f1)
       ·rw [if_pos c7] at H
        have c7b0 : decide (a1 ≤ ((rd_T98 l0 x10_1).f1)) = true := decide_eq_true c7
        clear c7
        simp only [Option.some.injEq, Prod.mk.injEq] at H
        obtain ⟨rfl, rfl⟩ := H
        have p107 : 0 ≤ (x10_1 : Int) := of_decide_eq_true (by first | (with_reducible assumption) | assumption)
        have q107 : x10_1 < (l0.length : Int) := of_decide_eq_true (by first | (with_reducible assumption) | assumption)
        obtain ⟨ad107, e107, hx107_0, hx107_1, hx107_2⟩ := at_T98 HR0.out x10_1 p107 q107
        cases e107
        replace hx107_0 := (HB.out.cell (World.block_lt_of_cell? w _ hx107_0)).trans hx107_0
        replace hx107_1 := (HB.out.cell (World.block_lt_of_cell? w _ hx107_1)).trans hx107_1
        replace hx107_2 := (HB.out.cell (World.block_lt_of_cell? w _ hx107_2)).trans hx107_2
        replace p107 := eq_true p107
        replace q107 := eq_true q107
        go_wp2_with (first | ((with_reducible refine gate_dst (N := 7) rfl ?_); refine box_event ?hg (N := 7) ?hd (cs := #[.int .i64 0, .int .i64 0, .int .i64 0]) (t := 98) ?hr ?_; (case hd => rfl); (case hg => rfl); (case hr => first | (go_simp; done) | (go_simp; rfl)); intro gb108 hg w8 hbox hb; have n0_ := Aside0.mk (below_step (by repeat (first | (with_reducible first | exact HB.out | apply below_alloc | apply pw_below_drewN | apply below_drew1) | exact HB.out)) hb); have n1_ := Aside0.mk (hbox); have n2_ := Aside0.mk ((by rw [hg]; exact (below_size (by repeat (first | (with_reducible first | exact HB.out | apply below_alloc | apply pw_below_drewN | apply below_drew1) | exact HB.out))) : w.heap.size ≤ gb108)); have n3_ := Aside0.mk ((by rw [hg]; exact (below_size (by repeat (first | (with_reducible first | exact HB.out | apply below_alloc | apply pw_below_drewN | apply below_drew1) | exact HB.out))) : w.heap.size ≤ gb108)); clear HB; have HB := n0_; have BK108 := n1_; have GW108 := n2_; have GE108 := n3_; clear n0_ n1_ n2_ n3_; clear hb hbox hg; have hcz9_0 : w8.cell? ⟨gb108, 0, none⟩ = some (.int .i64 0) := (blk_cell BK108.out 0).trans rfl; have hcz9_1 : w8.cell? ⟨gb108, 1, none⟩ = some (.int .i64 0) := (blk_cell BK108.out 1).trans rfl; have hcz9_2 : w8.cell? ⟨gb108, 2, none⟩ = some (.int .i64 0) := (blk_cell BK108.out 2).trans rfl; have hfz9_0 := blk_frozen BK108.out 0; have hfz9_1 := blk_frozen BK108.out 1; have hfz9_2 := blk_frozen BK108.out 2))
        go_ret2
        exact ⟨by first | rfl | (simp [errW_none, errW_some] <;> rfl) | (simp [*, errW_none, errW_some] <;> rfl), by repeat (first | (with_reducible first | exact HB.out | apply below_alloc | apply pw_below_drewN | apply below_drew1 | refine below_set ?_ GE108.out) | exact HB.out)⟩
       ·rw [if_neg c7] at H
        have c7b0 : decide (a1 ≤ ((rd_T98 l0 x10_1).f1)) = false := decide_eq_false c7
        clear c7
        have H' := Aside0.mk H
        clear H
        have p107 : 0 ≤ (x10_1 : Int) := of_decide_eq_true (by first | (with_reducible assumption) | assumption)
        have q107 : x10_1 < (l0.length : Int) := of_decide_eq_true (by first | (with_reducible assumption) | assumption)
        obtain ⟨ad107, e107, hx107_0, hx107_1, hx107_2⟩ := at_T98 HR0.out x10_1 p107 q107
        cases e107
        replace hx107_0 := (HB.out.cell (World.block_lt_of_cell? w _ hx107_0)).trans hx107_0
        replace hx107_1 := (HB.out.cell (World.block_lt_of_cell? w _ hx107_1)).trans hx107_1
        replace hx107_2 := (HB.out.cell (World.block_lt_of_cell? w _ hx107_2)).trans hx107_2
        replace p107 := eq_true p107
        replace q107 := eq_true q107
        go_wp2_with (first | ((with_reducible refine gate_dst (N := 7) rfl ?_); refine box_event ?hg (N := 7) ?hd (cs := #[.int .i64 0, .int .i64 0, .int .i64 0]) (t := 98) ?hr ?_; (case hd => rfl); (case hg => rfl); (case hr => first | (go_simp; done) | (go_simp; rfl)); intro gb108 hg w10 hbox hb; have n0_ := Aside0.mk (below_step (by repeat (first | (with_reducible first | exact HB.out | apply below_alloc | apply pw_below_drewN | apply below_drew1) | exact HB.out)) hb); have n1_ := Aside0.mk (hbox); have n2_ := Aside0.mk ((by rw [hg]; exact (below_size (by repeat (first | (with_reducible first | exact HB.out | apply below_alloc | apply pw_below_drewN | apply below_drew1) | exact HB.out))) : w.heap.size ≤ gb108)); have n3_ := Aside0.mk ((by rw [hg]; exact (below_size (by repeat (first | (with_reducible first | exact HB.out | apply below_alloc | apply pw_below_drewN | apply below_drew1) | exact HB.out))) : w.heap.size ≤ gb108)); clear HB; have HB := n0_; have BK108 := n1_; have GW108 := n2_; have GE108 := n3_; clear n0_ n1_ n2_ n3_; clear hb hbox hg; have hcz11_0 : w10.cell? ⟨gb108, 0, none⟩ = some (.int .i64 0) := (blk_cell BK108.out 0).trans rfl; have hcz11_1 : w10.cell? ⟨gb108, 1, none⟩ = some (.int .i64 0) := (blk_cell BK108.out 1).trans rfl; have hcz11_2 : w10.cell? ⟨gb108, 2, none⟩ = some (.int .i64 0) := (blk_cell BK108.out 2).trans rfl; have hfz11_0 := blk_frozen BK108.out 0; have hfz11_1 := blk_frozen BK108.out 1; have hfz11_2 := blk_frozen BK108.out 2))
        go_roundg k1
        case measure => have := HK1.out; omega
        case rel => exact ⟨(wrap64 (x10_1 + 1)), (by first | rfl | (simp; done) | (simp [*]; done)), H', ⟨by have := HK1.out; omega⟩, ⟨by repeat (first | (with_reducible first | exact HB.out | apply below_alloc | apply pw_below_drewN | apply below_drew1 | refine below_set ?_ GE108.out) | exact HB.out)⟩⟩
      ·rw [if_neg c6] at H
       have c6b0 : decide (((rd_T98 l0 x10_1).f0) ≤ a1) = false := decide_eq_false c6
       clear c6
       have H' := Aside0.mk H
       clear H
       have p107 : 0 ≤ (x10_1 : Int) := of_decide_eq_true (by first | (with_reducible assumption) | assumption)
       have q107 : x10_1 < (l0.length : Int) := of_decide_eq_true (by first | (with_reducible assumption) | assumption)
       obtain ⟨ad107, e107, hx107_0, hx107_1, hx107_2⟩ := at_T98 HR0.out x10_1 p107 q107
       cases e107
       replace hx107_0 := (HB.out.cell (World.block_lt_of_cell? w _ hx107_0)).trans hx107_0
       replace hx107_1 := (HB.out.cell (World.block_lt_of_cell? w _ hx107_1)).trans hx107_1
       replace hx107_2 := (HB.out.cell (World.block_lt_of_cell? w _ hx107_2)).trans hx107_2
       replace p107 := eq_true p107
       replace q107 := eq_true q107
       go_wp2_with (first | ((with_reducible refine gate_dst (N := 7) rfl ?_); refine box_event ?hg (N := 7) ?hd (cs := #[.int .i64 0, .int .i64 0, .int .i64 0]) (t := 98) ?hr ?_; (case hd => rfl); (case hg => rfl); (case hr => first | (go_simp; done) | (go_simp; rfl)); intro gb108 hg w12 hbox hb; have n0_ := Aside0.mk (below_step (by repeat (first | (with_reducible first | exact HB.out | apply below_alloc | apply pw_below_drewN | apply below_drew1) | exact HB.out)) hb); have n1_ := Aside0.mk (hbox); have n2_ := Aside0.mk ((by rw [hg]; exact (below_size (by repeat (first | (with_reducible first | exact HB.out | apply below_alloc | apply pw_below_drewN | apply below_drew1) | exact HB.out))) : w.heap.size ≤ gb108)); have n3_ := Aside0.mk ((by rw [hg]; exact (below_size (by repeat (first | (with_reducible first | exact HB.out | apply below_alloc | apply pw_below_drewN | apply below_drew1) | exact HB.out))) : w.heap.size ≤ gb108)); clear HB; have HB := n0_; have BK108 := n1_; have GW108 := n2_; have GE108 := n3_; clear n0_ n1_ n2_ n3_; clear hb hbox hg; have hcz13_0 : w12.cell? ⟨gb108, 0, none⟩ = some (.int .i64 0) := (blk_cell BK108.out 0).trans rfl; have hcz13_1 : w12.cell? ⟨gb108, 1, none⟩ = some (.int .i64 0) := (blk_cell BK108.out 1).trans rfl; have hcz13_2 : w12.cell? ⟨gb108, 2, none⟩ = some (.int .i64 0) := (blk_cell BK108.out 2).trans rfl; have hfz13_0 := blk_frozen BK108.out 0; have hfz13_1 := blk_frozen BK108.out 1; have hfz13_2 := blk_frozen BK108.out 2))
       go_roundg k1
       case measure => have := HK1.out; omega
       case rel => exact ⟨(wrap64 (x10_1 + 1)), (by first | rfl | (simp; done) | (simp [*]; done)), H', ⟨by have := HK1.out; omega⟩, ⟨by repeat (first | (with_reducible first | exact HB.out | apply below_alloc | apply pw_below_drewN | apply below_drew1 | refine below_set ?_ GE108.out) | exact HB.out)⟩⟩
     ·rw [if_neg c5] at H
      exact absurd H (by simp)
    ·rw [if_neg c4] at H
     exact absurd H (by simp)
   ·rw [if_neg c3] at H
    have c3b0 : decide (x10_1 < (l0.length : Int)) = false := decide_eq_false c3
    clear c3
    simp only [Option.some.injEq, Prod.mk.injEq] at H
    obtain ⟨rfl, rfl⟩ := H
    go_wp2
    go_ret2
    exact ⟨by first | rfl | (simp [errW_none, errW_some] <;> rfl) | (simp [*, errW_none, errW_some] <;> rfl), by repeat (first | (with_reducible first | exact HB.out | apply below_alloc | apply pw_below_drewN | apply below_drew1) | exact HB.out)⟩

/-! ### metric_Mark: function 24 -/
def metric_Mark.f (k : Nat) (a0 : Int) (l1 : List (List (S98))) : Option (Bool) := if 0 < (l1.length : Int) then ((metric_within.f k (rd_L2 l1 0) a0).bind fun bt110 => (some bt110.2)) else (none)
theorem metric_Mark.mono : ∀ a0 a1 k, LeO (metric_Mark.f k a0 a1) (metric_Mark.f (k + 1) a0 a1) := by
 intro a0 a1 k
 unfold metric_Mark.f
 repeat' first
   | (with_reducible exact metric_within.mono _ _ _)
   | (with_reducible exact LeO.refl _)
   | (with_reducible exact LeO.none _)
   | (with_reducible refine LeO.ite ?_ ?_)
   | (with_reducible refine LeO.bind ?_ (fun _ => ?_))
   | exact metric_within.mono _ _ _
   | exact LeO.none _
   | refine LeO.ite ?_ ?_
   | refine LeO.bind ?_ (fun _ => ?_)
set_option maxHeartbeats 8000000 in
set_option maxRecDepth 100000 in
theorem metric_Mark.calls (k : Nat) (a0 : Int) (c1 : Nat) (l1 : List (List (S98))) (r : Bool) (w : World) (hr1 : Kd.C (Kd.slice 98 k98) w (some ⟨0, 0, none⟩) l1.length l1) (hc1 : l1.length ≤ c1) (h : metric_Mark.f k a0 l1 = some r) :
  Calls Tryd.prog 24 #[.int .i64 a0] w fun e w' => e = .returned (.bool r) ∧ Below w.heap.size w w' := by
 have HR1 := Aside0.mk hr1
 have HC1 := Aside0.mk hc1
 clear hr1 hc1
 have HB := Aside0.mk (Below.refl w.heap.size w)
 have H : (if 0 < (l1.length : Int) then ((metric_within.f k (rd_L2 l1 0) a0).bind fun bt110 => (some bt110.2)) else (none)) = some r := h
 clear h
 by_cases c3 : 0 < (l1.length : Int)
 ·rw [if_pos c3] at H
  have c3b0 : decide (0 < (l1.length : Int)) = true := decide_eq_true c3
  have c3b1 : decide (0 < l1.length) = true := decide_eq_true (by omega)
  clear c3
  replace H := Option.bind_eq_some_iff.mp H
  obtain ⟨⟨t110, t111⟩, A40, H⟩ := H
  replace H : (some t111) = some r := H
  have A4 := Aside0.mk A40
  clear A40
  obtain rfl := Option.some.inj H
  have p109 : 0 ≤ (0 : Int) := (by omega)
  have q109 : 0 < (l1.length : Int) := of_decide_eq_true (by first | (with_reducible assumption) | assumption)
  obtain ⟨ad109, A109_0, c109_0, e109, hx109_0, hl109_0, hi109_0⟩ := at_L2 HR1.out 0 p109 q109
  obtain rfl : (⟨0, 0, none⟩ : Addr) = ad109 := (by injection e109)
  have hy109_0 := Aside0.mk hx109_0
  (first | simp only [add_plain] at hx109_0 | simp only [add_at] at hx109_0 | simp only [Addr.add, Nat.zero_add] at hx109_0 | skip)
  have qi109 : (0 < l1.length) = True := eq_true (by omega)
  (try rw [show ((0 : Int)).toNat = 0 from rfl] at hx109_0)
  (try rw [Addr.add_zero'] at hx109_0)
  have HR109_0 := Aside0.mk hi109_0
  have HC109_0 := Aside0.mk hl109_0
  clear hi109_0 hl109_0
  replace p109 := eq_true p109
  replace q109 := eq_true q109
  go_enter Tryd.func24, Tryd.ntmps24
  go_wp2_with (first | ((with_reducible refine gate_callee (f := 43) rfl ?_); refine goesL_ (some 8) rfl rfl Tryd.func43 (by kernel_rfl) rfl #[.slice A109_0 (rd_L2 l1 0).length c109_0, .int .i64 a0] rfl (by (try simp only [List.map_toArray, List.map_cons, List.map_nil]); first | done | rfl | (simp only [List.length_drop, List.length_take]; rfl)) ?_; (with_reducible refine (metric_within.calls k _ _ (rd_L2 l1 0) a0 t110 t111 _ ?side1 ?side2 A4.out).mono ?_); (case side1 => repeat (first | exact HR109_0.out | (with_reducible refine Kd.C_alloc ?_ _) | (with_reducible refine Kd.C_drewN ?_ _) | (with_reducible refine Kd.C_drew ?_))); (case side2 => exact HC109_0.out); rintro e w5 ⟨rfl, hb⟩; refine ⟨_, rfl, ?_⟩; have n0_ := Aside0.mk (below_step (by repeat (first | (with_reducible first | exact HB.out | apply below_alloc | apply pw_below_drewN | apply below_drew1) | exact HB.out)) hb); clear HB; have HB := n0_; clear n0_; (try clear hb); (try clear hb2); (try clear hk); (try clear hi)))
  go_ret
  exact ⟨by first | rfl | (simp [errW_none, errW_some] <;> rfl) | (simp [*, errW_none, errW_some] <;> rfl), by repeat (first | (with_reducible first | exact HB.out | apply below_alloc | apply pw_below_drewN | apply below_drew1) | exact HB.out)⟩
 ·rw [if_neg c3] at H
  exact absurd H (by simp)

/-! ### breaks_class: function 27 -/
open Go.Proofs.YtohaoaiffneamaaDoor.Ex in
def class_M (k : Nat) (l1 : List (List (S98))) : FuncId → List PV → Option PV := fun f vs => match f, vs with
 | 24, [.one (.int .i64 x)] => (metric_Mark.f k x l1).map fun b => .one (.bool b)
 | _, _ => none
open Go.Proofs.YtohaoaiffneamaaDoor.Ex in
def class_D : FuncId → PV := fun _ => .one (.bool false)
open Go.Proofs.YtohaoaiffneamaaDoor.Ex in
abbrev cI (n : Int) : Option PV := some (.one (.int .i64 n))
def orB2 (c : Int) (b : Bool) : List Int → Bool
 | [] => b
 | x :: r => orB2 c (bif b then true else c == x) r
def orB (c : Int) : List Int → Bool
 | [] => false
 | [x] => c == x
 | x :: y :: r => orB2 c (bif c == x then true else c == y) r
def rangeB (c : Int) (b : Bool) : List (Int × Int) → Bool
 | [] => b
 | (x, y) :: r => rangeB c (bif b then true else bif decide (c ≥ x) then decide (c ≤ y) else false) r
open Go.Proofs.YtohaoaiffneamaaDoor.Ex in
def class_fin (c : Int) (q : Bool) : Option PV := if (bif c == 8205 then true else q) = true then cI 10 else cI 0
open Go.Proofs.YtohaoaiffneamaaDoor.Ex in
def class_g (o : Option Bool) (c : Int) : Option PV :=
 if (c == 10) = true then cI 1 else
 if orB c [32, 9] = true then cI 2 else
 if (c == 0x200b) = true then cI 3 else
 if orB c [0xa0, 0x202f, 0x2060, 0xfeff] = true then cI 4 else
 if orB c [45, 0x2010, 0x2013] = true then cI 5 else
 if (c == 0xad) = true then cI 6 else
 if (bif decide (c ≥ 48) then decide (c ≤ 57) else false) = true then cI 11 else
 if orB c [40, 91, 123, 0xab, 0xbf, 0xa1, 0x2018, 0x201c, 0x300c] = true then cI 7 else
 if orB c [41, 93, 125, 0xbb, 44, 46, 58, 59, 33, 63, 0x2019, 0x201d, 0x2026, 0x3001, 0x3002, 0x300d] = true then cI 8 else
 if rangeB c (c == 0xfffc) [(0x2e80, 0xa4cf), (0xac00, 0xd7a3), (0xf900, 0xfaff), (0xff00, 0xff60), (0x20000, 0x3fffd)] = true then cI 9 else
 if ((c == 8205) == false && true) = true then (o.map (fun b => PV.one (.bool b))).bind (fun v => match v with | .one (.bool q) => class_fin c q | _ => none) else class_fin c false
open Go.Proofs.YtohaoaiffneamaaDoor.Ex in
set_option maxRecDepth 100000 in
theorem class_eq (k : Nat) (c : Int) (l1 : List (List (S98))) : fev (class_M k l1) class_D Tryd.f27 [.int .i64 c] 2 = class_g (metric_Mark.f k c l1) c := by
 kernel_rfl
def breaks_class.f (k : Nat) (c : Int) (l1 : List (List (S98))) : Option Int :=
 if (c == 10) = true then some 1 else
 if orB c [32, 9] = true then some 2 else
 if (c == 0x200b) = true then some 3 else
 if orB c [0xa0, 0x202f, 0x2060, 0xfeff] = true then some 4 else
 if orB c [45, 0x2010, 0x2013] = true then some 5 else
 if (c == 0xad) = true then some 6 else
 if (bif decide (c ≥ 48) then decide (c ≤ 57) else false) = true then some 11 else
 if orB c [40, 91, 123, 0xab, 0xbf, 0xa1, 0x2018, 0x201c, 0x300c] = true then some 7 else
 if orB c [41, 93, 125, 0xbb, 44, 46, 58, 59, 33, 63, 0x2019, 0x201d, 0x2026, 0x3001, 0x3002, 0x300d] = true then some 8 else
 if rangeB c (c == 0xfffc) [(0x2e80, 0xa4cf), (0xac00, 0xd7a3), (0xf900, 0xfaff), (0xff00, 0xff60), (0x20000, 0x3fffd)] = true then some 9 else
 if (c == 8205) = true then some 10 else (metric_Mark.f k c l1).bind fun q => some (if q = true then 10 else 0)
theorem breaks_class.mono : ∀ a0 a1 k, LeO (breaks_class.f k a0 a1) (breaks_class.f (k + 1) a0 a1) := fun a0 a1 k => by
 unfold breaks_class.f
 repeat' first | exact LeO.refl _ | exact LeO.bind (metric_Mark.mono _ _ _) (fun _ => LeO.refl _) | refine LeO.ite ?_ ?_
theorem class_gf {o : Option Bool} {k : Nat} {c r : Int} {l1 : List (List (S98))} (h : breaks_class.f k c l1 = some r) : class_g (metric_Mark.f k c l1) c = some (.one (.int .i64 r)) := by
 unfold breaks_class.f at h
 unfold class_g
 by_cases q0 : (c == 10) = true
 ·rw [if_pos q0] at h; rw [if_pos q0]; obtain rfl := Option.some.inj h; rfl
 rw [if_neg q0] at h; rw [if_neg q0]
 by_cases q1 : orB c [32, 9] = true
 ·rw [if_pos q1] at h; rw [if_pos q1]; obtain rfl := Option.some.inj h; rfl
 rw [if_neg q1] at h; rw [if_neg q1]
 by_cases q2 : (c == 0x200b) = true
 ·rw [if_pos q2] at h; rw [if_pos q2]; obtain rfl := Option.some.inj h; rfl
 rw [if_neg q2] at h; rw [if_neg q2]
 by_cases q3 : orB c [0xa0, 0x202f, 0x2060, 0xfeff] = true
 ·rw [if_pos q3] at h; rw [if_pos q3]; obtain rfl := Option.some.inj h; rfl
 rw [if_neg q3] at h; rw [if_neg q3]
 by_cases q4 : orB c [45, 0x2010, 0x2013] = true
 ·rw [if_pos q4] at h; rw [if_pos q4]; obtain rfl := Option.some.inj h; rfl
 rw [if_neg q4] at h; rw [if_neg q4]
 by_cases q5 : (c == 0xad) = true
 ·rw [if_pos q5] at h; rw [if_pos q5]; obtain rfl := Option.some.inj h; rfl
 rw [if_neg q5] at h; rw [if_neg q5]
 by_cases q6 : (bif decide (c ≥ 48) then decide (c ≤ 57) else false) = true
 ·rw [if_pos q6] at h; rw [if_pos q6]; obtain rfl := Option.some.inj h; rfl
 rw [if_neg q6] at h; rw [if_neg q6]
 by_cases q7 : orB c [40, 91, 123, 0xab, 0xbf, 0xa1, 0x2018, 0x201c, 0x300c] = true
 ·rw [if_pos q7] at h; rw [if_pos q7]; obtain rfl := Option.some.inj h; rfl
 rw [if_neg q7] at h; rw [if_neg q7]
 by_cases q8 : orB c [41, 93, 125, 0xbb, 44, 46, 58, 59, 33, 63, 0x2019, 0x201d, 0x2026, 0x3001, 0x3002, 0x300d] = true
 ·rw [if_pos q8] at h; rw [if_pos q8]; obtain rfl := Option.some.inj h; rfl
 rw [if_neg q8] at h; rw [if_neg q8]
 by_cases q9 : rangeB c (c == 0xfffc) [(0x2e80, 0xa4cf), (0xac00, 0xd7a3), (0xf900, 0xfaff), (0xff00, 0xff60), (0x20000, 0x3fffd)] = true
 ·rw [if_pos q9] at h; rw [if_pos q9]; obtain rfl := Option.some.inj h; rfl
 rw [if_neg q9] at h; rw [if_neg q9]
 by_cases e : (c == 8205) = true
 ·rw [if_pos e] at h
  obtain rfl := Option.some.inj h
  rw [e, if_neg (by decide)]
  unfold class_fin; rw [e]; rfl
 ·rw [if_neg e] at h
  have e' : (c == 8205) = false := by simpa using e
  rw [e', if_pos (by decide)]
  obtain ⟨q, hq, h⟩ := Option.bind_eq_some_iff.1 h
  obtain rfl := Option.some.inj h
  rw [hq]
  simp only [Option.map_some, Option.bind_some]
  unfold class_fin; rw [e']
  cases q <;> rfl
theorem breaks_class.calls (k : Nat) (a0 : Int) (c1 : Nat) (l1 : List (List (S98))) (r : Int) (w : World) (hr1 : Kd.C (Kd.slice 98 k98) w (some ⟨0, 0, none⟩) l1.length l1) (hc1 : l1.length ≤ c1) (h : breaks_class.f k a0 l1 = some r) :
  Calls Tryd.prog 27 #[.int .i64 a0] w fun e w' => e = .returned (.int .i64 r) ∧ Below w.heap.size w w' := by
 refine (Go.Proofs.YtohaoaiffneamaaDoor.Ex.fev_ok (M := class_M k l1) (D := class_D) (R := fun W => Below w.heap.size w W) ?_ Tryd.func27 [.int .i64 a0] 2 rfl ((class_eq k a0 l1).trans (class_gf (o := none) h)) (Below.refl _ _))
 intro f vs v W hm hb
 unfold class_M at hm
 split at hm
 ·rename_i x
  obtain ⟨b, hb0, rfl⟩ := Option.map_eq_some_iff.1 hm
  refine ⟨⟨_, Tryd.func24, by kernel_rfl, rfl⟩, (metric_Mark.calls k x c1 l1 b W (Kd.C_below hr1 hb) hc1 hb0).mono ?_⟩
  rintro e W' ⟨rfl, hb'⟩
  exact ⟨rfl, below_step hb hb'⟩
 ·cases hm

end Go.Proofs.YtohaoaiffneamaaDoor.QBreaks
