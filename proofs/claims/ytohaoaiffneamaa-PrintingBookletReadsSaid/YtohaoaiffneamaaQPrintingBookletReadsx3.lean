-- Written by a program of this session (myprint.py) for this claim: contracts of the functions that the law reaches. Not trusted: Lean checks it.
import Derived.Test.YtohaoaiffneamaaQPrintingBookletReadsx0
import Derived.Test.YtohaoaiffneamaaQPrintingBookletReadsx1
import Derived.Test.YtohaoaiffneamaaQPrintingBookletReadsx2
namespace Go.Proofs.Ytohaoaiffneamaa.QPrintingBookletReads
open Go.RowKit Go.Proofs.YtohaoaiffneamaaW.PrintWords Go.Proofs.YtohaoaiffneamaaW.PrintLast Go.Proofs.YtohaoaiffneamaaW.PrintMore
attribute [local go_sem] max2_int min2_int max_two min_two max_three min_three max_four min_four   -- for this text's walks alone
set_option linter.unusedVariables false
set_option linter.unusedSimpArgs false

attribute [local go_sem high] eqA34
/-! ### ck_PrintingBookletReads: function 4 -/
mutual
def ck_PrintingBookletReads.j0 : Nat → List Int → Bool → Option (Bool)
 | 0, _, _ => none
 | k + 1, x0, x31 => if x31 = true then (some false) else (ck_PrintingBookletReads.l0 k x0 ([] : List Int) 0)
def ck_PrintingBookletReads.j2 : Nat → List Int → Option (Bool)
 | 0, _ => none
 | k + 1, x5 => (printing_Booklet.f k x5).bind fun bt132 => ((printing_Read.f k bt132.1).bind fun bt136 => (if bt132.2 = 0 then (if bt136.2 = 0 then (if (bt136.1.length : Int) = (wrap64 (4 * (bt132.1.length : Int))) then (if (bt136.1.length : Int) < (x5.length : Int) then (ck_PrintingBookletReads.j3 k x5 bt136.1 true) else (ck_PrintingBookletReads.j3 k x5 bt136.1 (decide ((bt136.1.length : Int) > (wrap64 ((x5.length : Int) + 3)))))) else (ck_PrintingBookletReads.j3 k x5 bt136.1 true)) else (ck_PrintingBookletReads.j3 k x5 bt136.1 true)) else (ck_PrintingBookletReads.j3 k x5 bt136.1 true)))
def ck_PrintingBookletReads.j3 : Nat → List Int → List Int → Bool → Option (Bool)
 | 0, _, _, _ => none
 | k + 1, x5, x9, x88 => if x88 = true then (some false) else (ck_PrintingBookletReads.l1 k x5 x9 (x9.length : Int) 0)
def ck_PrintingBookletReads.l1 : Nat → List Int → List Int → Int → Int → Option (Bool)
 | 0, _, _, _, _ => none
 | k + 1, x5, x89, x90, x91 => if x91 < x90 then (if 0 ≤ x91 then (if x91 < (x89.length : Int) then (if x91 < (x5.length : Int) then (if (rd x89 x91) = (rd x5 x91) then (if x91 ≥ (x5.length : Int) then (if (rd x89 x91) = 0 then (ck_PrintingBookletReads.l1 k x5 x89 x90 (wrap64 (x91 + 1))) else (some false)) else (ck_PrintingBookletReads.l1 k x5 x89 x90 (wrap64 (x91 + 1)))) else (some false)) else (if x91 ≥ (x5.length : Int) then (if (rd x89 x91) = 0 then (ck_PrintingBookletReads.l1 k x5 x89 x90 (wrap64 (x91 + 1))) else (some false)) else (ck_PrintingBookletReads.l1 k x5 x89 x90 (wrap64 (x91 + 1))))) else (none)) else (none)) else (some true)
def ck_PrintingBookletReads.l0 : Nat → List Int → List Int → Int → Option (Bool)
 | 0, _, _, _ => none
 | k + 1, x0, x5, x6 => if x6 < (x0.length : Int) then (if x6 < 200 then (if 0 ≤ x6 then ((ck_within.f (rd x0 x6) 0 500).bind fun t128 => (if x5.length < 17592186044416 then (ck_PrintingBookletReads.l0 k x0 (x5 ++ [t128]) (wrap64 (x6 + 1))) else (none))) else (none)) else (ck_PrintingBookletReads.j2 k x5)) else (ck_PrintingBookletReads.j2 k x5)
end
def ck_PrintingBookletReads.f (k : Nat) (l0 : List Int) : Option (Bool) := (printing_Booklet.f k (([1, 2, 3] : List Int))).bind fun bt122 => (if bt122.2 = 0 then (if (bt122.1.length : Int) = 1 then (if 0 < (bt122.1.length : Int) then (ck_PrintingBookletReads.j0 k l0 (!(((rd_T34 bt122.1 0).f0) == 0) || (!(((rd_T34 bt122.1 0).f1) == 1) || (!(((rd_T34 bt122.1 0).f2) == 2) || (!(((rd_T34 bt122.1 0).f3) == 3)))))) else (none)) else (ck_PrintingBookletReads.j0 k l0 true)) else (ck_PrintingBookletReads.j0 k l0 true))
theorem ck_PrintingBookletReads.mono_l : ∀ k, (∀ y0 y1, LeO (ck_PrintingBookletReads.j0 k y0 y1) (ck_PrintingBookletReads.j0 (k + 1) y0 y1)) ∧ (∀ y0, LeO (ck_PrintingBookletReads.j2 k y0) (ck_PrintingBookletReads.j2 (k + 1) y0)) ∧ (∀ y0 y1 y2, LeO (ck_PrintingBookletReads.j3 k y0 y1 y2) (ck_PrintingBookletReads.j3 (k + 1) y0 y1 y2)) ∧ (∀ y0 y1 y2 y3, LeO (ck_PrintingBookletReads.l1 k y0 y1 y2 y3) (ck_PrintingBookletReads.l1 (k + 1) y0 y1 y2 y3)) ∧ (∀ y0 y1 y2, LeO (ck_PrintingBookletReads.l0 k y0 y1 y2) (ck_PrintingBookletReads.l0 (k + 1) y0 y1 y2))
 | 0 => ⟨fun _ _ r h => by simp [ck_PrintingBookletReads.j0] at h, fun _ r h => by simp [ck_PrintingBookletReads.j2] at h, fun _ _ _ r h => by simp [ck_PrintingBookletReads.j3] at h, fun _ _ _ _ r h => by simp [ck_PrintingBookletReads.l1] at h, fun _ _ _ r h => by simp [ck_PrintingBookletReads.l0] at h⟩
 | k + 1 => by
  obtain ⟨ih0, ih1, ih2, ih3, ih4⟩ := ck_PrintingBookletReads.mono_l k
  refine ⟨?_, ?_, ?_, ?_, ?_⟩
  ·intro y0 y1
   unfold ck_PrintingBookletReads.j0
   repeat' first
   | (with_reducible exact ih0 _ _)
   | (with_reducible exact ih1 _)
   | (with_reducible exact ih2 _ _ _)
   | (with_reducible exact ih3 _ _ _ _)
   | (with_reducible exact ih4 _ _ _)
   | (with_reducible exact printing_Booklet.mono _ _)
   | (with_reducible exact printing_Read.mono _ _)
   | (with_reducible exact LeO.refl _)
   | (with_reducible exact LeO.none _)
   | (with_reducible refine LeO.ite ?_ ?_)
   | (with_reducible refine LeO.bind ?_ (fun _ => ?_))
   | exact ih0 _ _
   | exact ih1 _
   | exact ih2 _ _ _
   | exact ih3 _ _ _ _
   | exact ih4 _ _ _
   | exact printing_Booklet.mono _ _
   | exact printing_Read.mono _ _
   | exact LeO.none _
   | refine LeO.ite ?_ ?_
   | refine LeO.bind ?_ (fun _ => ?_)
  ·intro y0
   unfold ck_PrintingBookletReads.j2
   repeat' first
   | (with_reducible exact ih0 _ _)
   | (with_reducible exact ih1 _)
   | (with_reducible exact ih2 _ _ _)
   | (with_reducible exact ih3 _ _ _ _)
   | (with_reducible exact ih4 _ _ _)
   | (with_reducible exact printing_Booklet.mono _ _)
   | (with_reducible exact printing_Read.mono _ _)
   | (with_reducible exact LeO.refl _)
   | (with_reducible exact LeO.none _)
   | (with_reducible refine LeO.ite ?_ ?_)
   | (with_reducible refine LeO.bind ?_ (fun _ => ?_))
   | exact ih0 _ _
   | exact ih1 _
   | exact ih2 _ _ _
   | exact ih3 _ _ _ _
   | exact ih4 _ _ _
   | exact printing_Booklet.mono _ _
   | exact printing_Read.mono _ _
   | exact LeO.none _
   | refine LeO.ite ?_ ?_
   | refine LeO.bind ?_ (fun _ => ?_)
  ·intro y0 y1 y2
   unfold ck_PrintingBookletReads.j3
   repeat' first
   | (with_reducible exact ih0 _ _)
   | (with_reducible exact ih1 _)
   | (with_reducible exact ih2 _ _ _)
   | (with_reducible exact ih3 _ _ _ _)
   | (with_reducible exact ih4 _ _ _)
   | (with_reducible exact printing_Booklet.mono _ _)
   | (with_reducible exact printing_Read.mono _ _)
   | (with_reducible exact LeO.refl _)
   | (with_reducible exact LeO.none _)
   | (with_reducible refine LeO.ite ?_ ?_)
   | (with_reducible refine LeO.bind ?_ (fun _ => ?_))
   | exact ih0 _ _
   | exact ih1 _
   | exact ih2 _ _ _
   | exact ih3 _ _ _ _
   | exact ih4 _ _ _
   | exact printing_Booklet.mono _ _
   | exact printing_Read.mono _ _
   | exact LeO.none _
   | refine LeO.ite ?_ ?_
   | refine LeO.bind ?_ (fun _ => ?_)
  ·intro y0 y1 y2 y3
   unfold ck_PrintingBookletReads.l1
   repeat' first
   | (with_reducible exact ih0 _ _)
   | (with_reducible exact ih1 _)
   | (with_reducible exact ih2 _ _ _)
   | (with_reducible exact ih3 _ _ _ _)
   | (with_reducible exact ih4 _ _ _)
   | (with_reducible exact printing_Booklet.mono _ _)
   | (with_reducible exact printing_Read.mono _ _)
   | (with_reducible exact LeO.refl _)
   | (with_reducible exact LeO.none _)
   | (with_reducible refine LeO.ite ?_ ?_)
   | (with_reducible refine LeO.bind ?_ (fun _ => ?_))
   | exact ih0 _ _
   | exact ih1 _
   | exact ih2 _ _ _
   | exact ih3 _ _ _ _
   | exact ih4 _ _ _
   | exact printing_Booklet.mono _ _
   | exact printing_Read.mono _ _
   | exact LeO.none _
   | refine LeO.ite ?_ ?_
   | refine LeO.bind ?_ (fun _ => ?_)
  ·intro y0 y1 y2
   unfold ck_PrintingBookletReads.l0
   repeat' first
   | (with_reducible exact ih0 _ _)
   | (with_reducible exact ih1 _)
   | (with_reducible exact ih2 _ _ _)
   | (with_reducible exact ih3 _ _ _ _)
   | (with_reducible exact ih4 _ _ _)
   | (with_reducible exact printing_Booklet.mono _ _)
   | (with_reducible exact printing_Read.mono _ _)
   | (with_reducible exact LeO.refl _)
   | (with_reducible exact LeO.none _)
   | (with_reducible refine LeO.ite ?_ ?_)
   | (with_reducible refine LeO.bind ?_ (fun _ => ?_))
   | exact ih0 _ _
   | exact ih1 _
   | exact ih2 _ _ _
   | exact ih3 _ _ _ _
   | exact ih4 _ _ _
   | exact printing_Booklet.mono _ _
   | exact printing_Read.mono _ _
   | exact LeO.none _
   | refine LeO.ite ?_ ?_
   | refine LeO.bind ?_ (fun _ => ?_)
theorem ck_PrintingBookletReads.mono : ∀ a0 k, LeO (ck_PrintingBookletReads.f k a0) (ck_PrintingBookletReads.f (k + 1) a0) := by
 intro a0 k
 obtain ⟨ih0, ih1, ih2, ih3, ih4⟩ := ck_PrintingBookletReads.mono_l k
 unfold ck_PrintingBookletReads.f
 repeat' first
   | (with_reducible exact ih0 _ _)
   | (with_reducible exact ih1 _)
   | (with_reducible exact ih2 _ _ _)
   | (with_reducible exact ih3 _ _ _ _)
   | (with_reducible exact ih4 _ _ _)
   | (with_reducible exact printing_Booklet.mono _ _)
   | (with_reducible exact printing_Read.mono _ _)
   | (with_reducible exact LeO.refl _)
   | (with_reducible exact LeO.none _)
   | (with_reducible refine LeO.ite ?_ ?_)
   | (with_reducible refine LeO.bind ?_ (fun _ => ?_))
   | exact ih0 _ _
   | exact ih1 _
   | exact ih2 _ _ _
   | exact ih3 _ _ _ _
   | exact ih4 _ _ _
   | exact printing_Booklet.mono _ _
   | exact printing_Read.mono _ _
   | exact LeO.none _
   | refine LeO.ite ?_ ?_
   | refine LeO.bind ?_ (fun _ => ?_)
set_option maxHeartbeats 8000000 in
set_option maxRecDepth 100000 in
theorem ck_PrintingBookletReads.calls (k : Nat) (A0 : Option Addr) (c0 : Nat) (l0 : List Int) (r : Bool) (w : World) (hr0 : Kd.C (Kd.int .i64) w A0 l0.length l0) (hc0 : l0.length ≤ c0) (h : ck_PrintingBookletReads.f k l0 = some r) :
  Calls Try.prog 4 #[.slice A0 l0.length c0] w fun e w' => e = .returned (.bool r) ∧ Below w.heap.size w w' := by
 have hu34 := Try.underlying34
 have HR0 := Aside0.mk hr0
 have HC0 := Aside0.mk hc0
 clear hr0 hc0
 have HB := Aside0.mk (Below.refl w.heap.size w)
 have H : ((printing_Booklet.f k (([1, 2, 3] : List Int))).bind fun bt122 => (if bt122.2 = 0 then (if (bt122.1.length : Int) = 1 then (if 0 < (bt122.1.length : Int) then (ck_PrintingBookletReads.j0 k l0 (!(((rd_T34 bt122.1 0).f0) == 0) || (!(((rd_T34 bt122.1 0).f1) == 1) || (!(((rd_T34 bt122.1 0).f2) == 2) || (!(((rd_T34 bt122.1 0).f3) == 3)))))) else (none)) else (ck_PrintingBookletReads.j0 k l0 true)) else (ck_PrintingBookletReads.j0 k l0 true))) = some r := h
 clear h
 obtain ⟨y119, hy119⟩ : ∃ y_ : List Int, y_ = (([1, 2, 3] : List Int)) := ⟨_, rfl⟩
 replace H : ((printing_Booklet.f k y119).bind fun bt122 => (if bt122.2 = 0 then (if (bt122.1.length : Int) = 1 then (if 0 < (bt122.1.length : Int) then (ck_PrintingBookletReads.j0 k l0 (!(((rd_T34 bt122.1 0).f0) == 0) || (!(((rd_T34 bt122.1 0).f1) == 1) || (!(((rd_T34 bt122.1 0).f2) == 2) || (!(((rd_T34 bt122.1 0).f3) == 3)))))) else (none)) else (ck_PrintingBookletReads.j0 k l0 true)) else (ck_PrintingBookletReads.j0 k l0 true))) = some r := by first | (rw [hy119]; with_reducible exact H) | (have H2_ := (Option.bind_some _ _).symm.trans H; rw [hy119]; with_reducible exact H2_) | (have H2_ := (Option.bind_some _ _).symm.trans H; with_reducible exact H2_) | with_reducible exact H | (rw [hy119]; exact H) | exact H
 have Ny119 := Aside0.mk hy119
 clear hy119
 replace H := Option.bind_eq_some_iff.mp H
 obtain ⟨⟨t122, t123⟩, A20, H⟩ := H
 replace H : (if t123 = 0 then (if (t122.length : Int) = 1 then (if 0 < (t122.length : Int) then (ck_PrintingBookletReads.j0 k l0 (!(((rd_T34 t122 0).f0) == 0) || (!(((rd_T34 t122 0).f1) == 1) || (!(((rd_T34 t122 0).f2) == 2) || (!(((rd_T34 t122 0).f3) == 3)))))) else (none)) else (ck_PrintingBookletReads.j0 k l0 true)) else (ck_PrintingBookletReads.j0 k l0 true)) = some r := H
 have A2 := Aside0.mk A20
 clear A20
 have HC3 := Aside0.mk H
 clear H
 go_enter Try.func4, Try.ntmps4
 go_upto_region 2 with (first | ((with_reducible refine gate_dst (N := 14) rfl ?_); (try (refine gate_guard (by rfl) ?_; dsimp only)); refine Kd.R_lit (Kd.int .i64) _ 3 ?hg (N := 14) ?hd (xs := ([1, 2, 3] : List Int)) (inner := [.int .i64 1, .int .i64 2, .int .i64 3]) (ok := fun _ => True) (okp := fun _ => True) ?hr ?hp (fun _ hk => hk) trivial (Below.refl _ _) (Nat.le_refl _) (by simp) ?_; (case hd => rfl); (case hg => rfl); (case hr => first | (go_simp; done) | (go_simp; rfl)); (case hp => exact (Reps.one (show Kd.M (Kd.int .i64) _ _ _ 1 [.int .i64 1] from rfl) (Reps.one (show Kd.M (Kd.int .i64) _ _ _ 2 [.int .i64 2] from rfl) (Reps.one (show Kd.M (Kd.int .i64) _ _ _ 3 [.int .i64 3] from rfl) (Reps.none _ _))))); intro v120 w4 ho5 hb hg_ hnew_; clear hg_ hnew_; (first | rw [← Ny119.out] at ho5 | (simp only [Int.reduceToNat] at ho5; rw [← Ny119.out] at ho5)); have n0_ := Aside0.mk (Kd.R_lower ho5 (below_size (by repeat (first | (with_reducible first | exact HB.out | apply below_alloc | apply pw_below_drewN | apply below_drew1) | exact HB.out)))); have n1_ := Aside0.mk (below_step (by repeat (first | (with_reducible first | exact HB.out | apply below_alloc | apply pw_below_drewN | apply below_drew1) | exact HB.out)) hb); clear HB; have HO121 := n0_; have HB := n1_; clear n0_ n1_; clear hb ho5; obtain ⟨Ao6, co6, eo6⟩ := Kd.R_slice HO121.out; subst eo6) | ((with_reducible refine gate_callee (f := 12) rfl ?_); refine goesL_ (some 15) rfl rfl Try.func12 (by kernel_rfl) rfl #[.slice Ao6 y119.length co6] rfl (by (try simp only [List.map_toArray, List.map_cons, List.map_nil]); first | done | rfl | (simp only [List.length_drop, List.length_take]; rfl)) ?_; (with_reducible refine (printing_Booklet.calls k _ _ y119 t122 t123 _ ?side1 ?side2 A2.out).mono ?_); (case side1 => repeat (first | exact (Kd.R_reads' HO121.out).2.2 | (with_reducible refine Kd.C_alloc ?_ _) | (with_reducible refine Kd.C_drewN ?_ _) | (with_reducible refine Kd.C_drew ?_))); (case side2 => exact (Kd.R_reads' HO121.out).2.1); rintro e w7 ⟨v124, rfl, ho0, hb⟩; refine ⟨_, rfl, ?_⟩; have n0_ := Aside0.mk (Kd.R_below (by (with_reducible repeat (first | apply Kd.R_alloc | apply Kd.R_drewN | apply Kd.R_drew)); exact HO121.out) hb); have n1_ := Aside0.mk (Kd.R_lower ho0 (below_size (by repeat (first | (with_reducible first | exact HB.out | apply below_alloc | apply pw_below_drewN | apply below_drew1) | exact HB.out)))); have n2_ := Aside0.mk (below_step (by repeat (first | (with_reducible first | exact HB.out | apply below_alloc | apply pw_below_drewN | apply below_drew1) | exact HB.out)) hb); clear HO121; clear HB; have HO121 := n0_; have HO125 := n1_; have HB := n2_; clear n0_ n1_ n2_; (try clear hb); (try clear hb2); (try clear hk); (try clear hi); (try clear ho0)))
 (try simp only [Act.put, List.setIfInBounds_toArray, List.set_cons_zero, List.set_cons_succ])
 go_cut [31] (fun v31 wc => ∃ (kq : Nat) (x31_2 : Bool), v31 = .bool x31_2 ∧ Aside0 (ck_PrintingBookletReads.j0 kq l0 x31_2 = some r) ∧ Aside0 (kq ≤ k) ∧ Aside0 (Below w.heap.size w wc))
 case first =>
  have H := HC3.out
  clear HC3
  by_cases c8 : t123 = 0
  ·rw [if_pos c8] at H
   have c8b0 : (t123 == 0) = true := beq_iff_eq.mpr c8
   have c8b1 : (t123 != 0) = false := bne_eq_false_iff_eq.mpr c8
   clear c8
   (first | rw [c8b0] | (simp only [i64_w, i32_w]; rw [c8b0]) | skip)
   by_cases c9 : (t122.length : Int) = 1
   ·rw [if_pos c9] at H
    have c9b0 : ((t122.length : Int) == 1) = true := beq_iff_eq.mpr c9
    have c9b1 : ((t122.length : Int) != 1) = false := bne_eq_false_iff_eq.mpr c9
    clear c9
    by_cases c10 : 0 < (t122.length : Int)
    ·rw [if_pos c10] at H
     have c10b0 : decide (0 < (t122.length : Int)) = true := decide_eq_true c10
     have c10b1 : decide (0 < t122.length) = true := decide_eq_true (by omega)
     clear c10
     have H' := Aside0.mk H
     clear H
     obtain ⟨Ao11, co11, eo11⟩ := Kd.R_slice HO125.out
     subst eo11
     have p126 : 0 ≤ (0 : Int) := (by omega)
     have q126 : 0 < (t122.length : Int) := of_decide_eq_true (by first | (with_reducible assumption) | assumption)
     obtain ⟨ad126, e126, hx126_0, hx126_1, hx126_2, hx126_3⟩ := at_T34 (Kd.R_reads' HO125.out).2.2 0 p126 q126
     cases e126
     have qi126 : (0 < t122.length) = True := eq_true (by omega)
     (try rw [show ((0 : Int)).toNat = 0 from rfl] at hx126_0)
     (try rw [show 0 * 4 = 0 from rfl] at hx126_0)
     (try rw [Addr.add_zero'] at hx126_0)
     (try rw [show ((0 : Int)).toNat = 0 from rfl] at hx126_1)
     (try rw [show 0 * 4 = 0 from rfl] at hx126_1)
     (try rw [Addr.add_zero'] at hx126_1)
     (try rw [show ((0 : Int)).toNat = 0 from rfl] at hx126_2)
     (try rw [show 0 * 4 = 0 from rfl] at hx126_2)
     (try rw [Addr.add_zero'] at hx126_2)
     (try rw [show ((0 : Int)).toNat = 0 from rfl] at hx126_3)
     (try rw [show 0 * 4 = 0 from rfl] at hx126_3)
     (try rw [Addr.add_zero'] at hx126_3)
     replace p126 := eq_true p126
     replace q126 := eq_true q126
     go_wp2
     go_meet
     case rel => exact ⟨_, ((!(((rd_T34 t122 0).f0) == 0) || (!(((rd_T34 t122 0).f1) == 1) || (!(((rd_T34 t122 0).f2) == 2) || (!(((rd_T34 t122 0).f3) == 3)))))), (by first | rfl | (simp; done) | (simp [*]; done)), H', ⟨by first | omega | exact Nat.le_refl _⟩, ⟨by repeat (first | (with_reducible first | exact HB.out | apply below_alloc | apply pw_below_drewN | apply below_drew1) | exact HB.out)⟩⟩
    ·rw [if_neg c10] at H
     exact absurd H (by simp)
   ·rw [if_neg c9] at H
    have c9b0 : ((t122.length : Int) == 1) = false := beq_eq_false_iff_ne.mpr c9
    have c9b1 : ((t122.length : Int) != 1) = true := bne_iff_ne.mpr c9
    have H' := Aside0.mk H
    clear H
    obtain ⟨Ao12, co12, eo12⟩ := Kd.R_slice HO125.out
    subst eo12
    go_wp2
    go_meet
    case rel => exact ⟨_, (true), (by first | rfl | (simp; done) | (simp [*]; done)), H', ⟨by first | omega | exact Nat.le_refl _⟩, ⟨by repeat (first | (with_reducible first | exact HB.out | apply below_alloc | apply pw_below_drewN | apply below_drew1) | exact HB.out)⟩⟩
  ·rw [if_neg c8] at H
   have c8b0 : (t123 == 0) = false := beq_eq_false_iff_ne.mpr c8
   have c8b1 : (t123 != 0) = true := bne_iff_ne.mpr c8
   (first | rw [c8b0] | (simp only [i64_w, i32_w]; rw [c8b0]) | skip)
   have H' := Aside0.mk H
   clear H
   go_wp2
   go_meet
   case rel => exact ⟨_, (true), (by first | rfl | (simp; done) | (simp [*]; done)), H', ⟨by first | omega | exact Nat.le_refl _⟩, ⟨by repeat (first | (with_reducible first | exact HB.out | apply below_alloc | apply pw_below_drewN | apply below_drew1) | exact HB.out)⟩⟩
 case rest =>
  clear HC3
  try clear c1
  try clear p1
  try clear q1
  try clear hx1
  try clear qi1
  try clear p2
  try clear c4
  try clear c8
  try clear c8b0
  try clear c8b1
  try clear c9
  try clear c9b0
  try clear c9b1
  try clear c10
  try clear c10b0
  try clear c10b1
  try clear c12
  try clear p12
  try clear q12
  try clear hx12
  try clear qi12
  try clear hx126_0
  try clear hx126_1
  try clear hx126_2
  try clear hx126_3
  try clear p126
  try clear q126
  obtain ⟨kq, x31_2, rfl, HA, HJ2, HB⟩ := hcut
  cases kq with
  | zero => exact absurd HA.out (by simp [ck_PrintingBookletReads.j0])
  | succ kj2 =>
   have H := HA.out
   clear HA
   simp only [ck_PrintingBookletReads.j0] at H
   by_cases c13 : x31_2 = true
   ·subst c13
    have H1 : (some false) = some r := by rw [if_pos rfl] at H; exact H
    clear H
    have H := H1
    clear H1
    obtain rfl := Option.some.inj H
    go_wp2
    go_ret
    exact ⟨by first | rfl | (simp [errW_none, errW_some] <;> rfl) | (simp [*, errW_none, errW_some] <;> rfl), by repeat (first | (with_reducible first | exact HB.out | apply below_alloc | apply pw_below_drewN | apply below_drew1) | exact HB.out)⟩
   ·replace c13 := Bool.eq_false_iff.mpr c13
    subst c13
    have H1 : (ck_PrintingBookletReads.l0 kj2 l0 ([] : List Int) 0) = some r := by rw [if_neg (show ¬ (false = true) by decide)] at H; exact H
    clear H
    have H := H1
    clear H1
    have HC14 := Aside0.mk H
    clear H
    go_upto_block 0 with (fail)
    go_cut [5] (fun v5 wc => ∃ (kq : Nat) (x5_13 : List Int), Aside0 (ck_PrintingBookletReads.j2 kq x5_13 = some r) ∧ Aside0 (kq ≤ kj2) ∧ Aside0 (Kd.R (Kd.int .i64) 3 wc w.heap.size (fun _ => True) v5 x5_13) ∧ Aside0 (Below w.heap.size w wc))
    case first =>
     have H := HC14.out
     clear HC14
     have H' := Aside0.mk H
     clear H
     go_wp2
     go_loopg [5, 6] kj2 (fun kq v5 v6 w' => ∃ (x5_2 : List Int) (x6_2 : Int), v6 = .int .i64 x6_2 ∧ Aside0 (ck_PrintingBookletReads.l0 kq l0 x5_2 x6_2 = some r) ∧ Aside0 (kq ≤ kj2) ∧ Aside0 (Kd.R (Kd.int .i64) 3 w' w.heap.size (fun _ => True) v5 x5_2) ∧ Aside0 (Below w.heap.size w w'))
     case atStart => exact ⟨(([] : List Int)), (0), (by first | rfl | (simp; done) | (simp [*]; done)), H', ⟨Nat.le_refl _⟩, ⟨by first | exact Kd.R_nil _ _ _ _ _ | exact Kd.N_nil _ _ _ _ _ | exact Kd.V_nil _ _ _ _ _ | exact Kd.Q_nil _ _ _ _ _ | exact Kd.S_nil _ _ _ _ _⟩, ⟨by repeat (first | (with_reducible first | exact HB.out | apply below_alloc | apply pw_below_drewN | apply below_drew1) | exact HB.out)⟩⟩
     case round =>
      clear H'
      try clear c1
      try clear p1
      try clear q1
      try clear hx1
      try clear qi1
      try clear p2
      try clear c4
      try clear c8
      try clear c8b0
      try clear c8b1
      try clear c9
      try clear c9b0
      try clear c9b1
      try clear c10
      try clear c10b0
      try clear c10b1
      try clear c12
      try clear p12
      try clear q12
      try clear hx12
      try clear qi12
      try clear c13
      try clear hx126_0
      try clear hx126_1
      try clear hx126_2
      try clear hx126_3
      try clear p1
      try clear p12
      try clear p126
      try clear p2
      try clear q1
      try clear q12
      try clear q126
      obtain ⟨x5_2, x6_2, rfl, HA, HK2, HO_5, HB⟩ := hrel
      cases gk with
      | zero => exact absurd HA.out (by simp [ck_PrintingBookletReads.l0])
      | succ k2 =>
       have H := HA.out
       clear HA
       simp only [ck_PrintingBookletReads.l0] at H
       by_cases c15 : x6_2 < (l0.length : Int)
       ·rw [if_pos c15] at H
        have c15b0 : decide (x6_2 < (l0.length : Int)) = true := decide_eq_true c15
        clear c15
        (first | rw [c15b0] | (simp only [i64_w, i32_w]; rw [c15b0]) | skip)
        by_cases c16 : x6_2 < 200
        ·rw [if_pos c16] at H
         have c16b0 : decide (x6_2 < 200) = true := decide_eq_true c16
         clear c16
         by_cases c17 : 0 ≤ x6_2
         ·rw [if_pos c17] at H
          have c17b0 : decide (0 ≤ x6_2) = true := decide_eq_true c17
          clear c17
          replace H := Option.bind_eq_some_iff.mp H
          obtain ⟨t128, A180, H⟩ := H
          replace H : (if x5_2.length < 17592186044416 then (ck_PrintingBookletReads.l0 k2 l0 (x5_2 ++ [t128]) (wrap64 (x6_2 + 1))) else (none)) = some r := H
          have A18 := Aside0.mk A180
          clear A180
          by_cases c19 : x5_2.length < 17592186044416
          ·rw [if_pos c19] at H
           have LMc19 := Aside0.mk c19
           clear c19
           obtain ⟨y129, hy129⟩ : ∃ y_ : List Int, y_ = (x5_2 ++ [t128]) := ⟨_, rfl⟩
           replace H : (ck_PrintingBookletReads.l0 k2 l0 y129 (wrap64 (x6_2 + 1))) = some r := by first | (rw [hy129]; with_reducible exact H) | (have H2_ := (Option.bind_some _ _).symm.trans H; rw [hy129]; with_reducible exact H2_) | (have H2_ := (Option.bind_some _ _).symm.trans H; with_reducible exact H2_) | with_reducible exact H | (rw [hy129]; exact H) | exact H
           have Ny129 := Aside0.mk hy129
           clear hy129
           have H' := Aside0.mk H
           clear H
           have p127 : 0 ≤ (x6_2 : Int) := of_decide_eq_true (by first | (with_reducible assumption) | assumption)
           have q127 : x6_2 < (l0.length : Int) := of_decide_eq_true (by first | (with_reducible assumption) | assumption)
           obtain ⟨ad127, e127, hx127_0⟩ := Kd.at_int HR0.out x6_2 p127 q127
           cases e127
           replace hx127_0 := (HB.out.cell (World.block_lt_of_cell? w _ hx127_0)).trans hx127_0
           replace p127 := eq_true p127
           replace q127 := eq_true q127
           go_wp2_with (first | ((with_reducible refine gate_callee (f := 13) rfl ?_); refine goesL_ (some 47) rfl rfl Try.func13 (by kernel_rfl) rfl #[.int .i64 (rd l0 x6_2), .int .i64 0, .int .i64 500] rfl (by (try simp only [List.map_toArray, List.map_cons, List.map_nil]); first | done | rfl | (simp only [List.length_drop, List.length_take]; rfl)) ?_; (with_reducible refine (ck_within.calls (rd l0 x6_2) 0 500 t128 _ A18.out).mono ?_); rintro e w' ⟨rfl, ⟨nd, rfl⟩⟩; refine ⟨_, rfl, ?_⟩) | ((with_reducible refine gate_builtin (b := .append) (xs := #[.tmp 42, .tmp 48]) rfl ?_); (try (refine gate_guard (by rfl) ?_; dsimp only)); at_builtin; refine Kd.R_append (Kd.int .i64) (w0 := w) w.heap.size rfl (.tmp 42) (.tmp 48) 29 3 (.int .i64 0) 8 rfl Try.underlying29 info3 rfl (by decide) (by omega) u5 x5_2 t128 [.int .i64 t128] (fun _ => True) (fun _ => False) rfl rfl ?aP (fun _ hk => hk.elim) ?aF ?aO ?aB ?aS ?aL ?_; (case aP => exact rfl); (case aB => exact (by repeat (first | (with_reducible first | exact HB.out | apply below_alloc | apply pw_below_drewN | apply below_drew1) | exact HB.out))); (case aF => exact (fun _ _ => trivial)); (case aO => exact (by (with_reducible repeat (first | apply Kd.R_alloc | apply Kd.R_drewN | apply Kd.R_drew)); exact HO_5.out)); (case aS => exact (below_size (by repeat (first | (with_reducible first | exact HB.out | apply below_alloc | apply pw_below_drewN | apply below_drew1) | exact HB.out)))); (case aL => have := LMc19.out; omega); intro v130 w20 ho hb hg hat; rw [← Ny129.out] at ho; have n0_ := Aside0.mk (hb); have n1_ := Aside0.mk (ho); clear HB; clear HO_5; have HB := n0_; have HO131 := n1_; clear n0_ n1_; clear ho hb hg hat))
           go_roundg k2
           case measure => have := HJ2.out; have := HK2.out; omega
           case rel => exact ⟨(y129), (wrap64 (x6_2 + 1)), (by first | rfl | (simp; done) | (simp [*]; done)), H', ⟨by have := HJ2.out; have := HK2.out; omega⟩, ⟨by (with_reducible repeat (first | apply Kd.R_alloc | apply Kd.R_drewN | apply Kd.R_drew)); exact HO131.out⟩, ⟨by repeat (first | (with_reducible first | exact HB.out | apply below_alloc | apply pw_below_drewN | apply below_drew1) | exact HB.out)⟩⟩
          ·rw [if_neg c19] at H
           exact absurd H (by simp)
         ·rw [if_neg c17] at H
          exact absurd H (by simp)
        ·rw [if_neg c16] at H
         have c16b0 : decide (x6_2 < 200) = false := decide_eq_false c16
         clear c16
         have H' := Aside0.mk H
         clear H
         go_wp2
         go_meet
         case rel => exact ⟨_, (x5_2), H', ⟨by have := HJ2.out; have := HK2.out; first | omega | exact Nat.le_refl _⟩, ⟨by (with_reducible repeat (first | apply Kd.R_alloc | apply Kd.R_drewN | apply Kd.R_drew)); exact HO_5.out⟩, ⟨by repeat (first | (with_reducible first | exact HB.out | apply below_alloc | apply pw_below_drewN | apply below_drew1) | exact HB.out)⟩⟩
       ·rw [if_neg c15] at H
        have c15b0 : decide (x6_2 < (l0.length : Int)) = false := decide_eq_false c15
        clear c15
        (first | rw [c15b0] | (simp only [i64_w, i32_w]; rw [c15b0]) | skip)
        have H' := Aside0.mk H
        clear H
        go_wp2
        go_meet
        case rel => exact ⟨_, (x5_2), H', ⟨by have := HJ2.out; have := HK2.out; first | omega | exact Nat.le_refl _⟩, ⟨by (with_reducible repeat (first | apply Kd.R_alloc | apply Kd.R_drewN | apply Kd.R_drew)); exact HO_5.out⟩, ⟨by repeat (first | (with_reducible first | exact HB.out | apply below_alloc | apply pw_below_drewN | apply below_drew1) | exact HB.out)⟩⟩
    case rest =>
     clear HC14
     try clear c1
     try clear p1
     try clear q1
     try clear hx1
     try clear qi1
     try clear p2
     try clear c4
     try clear p6
     try clear c8
     try clear c8b0
     try clear c8b1
     try clear c9
     try clear c9b0
     try clear c9b1
     try clear c10
     try clear c10b0
     try clear c10b1
     try clear c12
     try clear p12
     try clear q12
     try clear hx12
     try clear qi12
     try clear c13
     try clear c15
     try clear c15b0
     try clear c16
     try clear c16b0
     try clear c17
     try clear c17b0
     try clear c19
     try clear hx126_0
     try clear hx126_1
     try clear hx126_2
     try clear hx126_3
     try clear hx127_0
     try clear p1
     try clear p12
     try clear p126
     try clear p127
     try clear p2
     try clear q1
     try clear q12
     try clear q126
     try clear q127
     obtain ⟨kq, x5_13, HA, HJ13, HO_5, HB⟩ := hcut
     cases kq with
     | zero => exact absurd HA.out (by simp [ck_PrintingBookletReads.j2])
     | succ kj13 =>
      have H := HA.out
      clear HA
      simp only [ck_PrintingBookletReads.j2] at H
      replace H := Option.bind_eq_some_iff.mp H
      obtain ⟨⟨t132, t133⟩, A210, H⟩ := H
      replace H : ((printing_Read.f kj13 t132).bind fun bt136 => (if t133 = 0 then (if bt136.2 = 0 then (if (bt136.1.length : Int) = (wrap64 (4 * (t132.length : Int))) then (if (bt136.1.length : Int) < (x5_13.length : Int) then (ck_PrintingBookletReads.j3 kj13 x5_13 bt136.1 true) else (ck_PrintingBookletReads.j3 kj13 x5_13 bt136.1 (decide ((bt136.1.length : Int) > (wrap64 ((x5_13.length : Int) + 3)))))) else (ck_PrintingBookletReads.j3 kj13 x5_13 bt136.1 true)) else (ck_PrintingBookletReads.j3 kj13 x5_13 bt136.1 true)) else (ck_PrintingBookletReads.j3 kj13 x5_13 bt136.1 true))) = some r := H
      have A21 := Aside0.mk A210
      clear A210
      replace H := Option.bind_eq_some_iff.mp H
      obtain ⟨⟨t136, t137⟩, A220, H⟩ := H
      replace H : (if t133 = 0 then (if t137 = 0 then (if (t136.length : Int) = (wrap64 (4 * (t132.length : Int))) then (if (t136.length : Int) < (x5_13.length : Int) then (ck_PrintingBookletReads.j3 kj13 x5_13 t136 true) else (ck_PrintingBookletReads.j3 kj13 x5_13 t136 (decide ((t136.length : Int) > (wrap64 ((x5_13.length : Int) + 3)))))) else (ck_PrintingBookletReads.j3 kj13 x5_13 t136 true)) else (ck_PrintingBookletReads.j3 kj13 x5_13 t136 true)) else (ck_PrintingBookletReads.j3 kj13 x5_13 t136 true)) = some r := H
      have A22 := Aside0.mk A220
      clear A220
      have HC23 := Aside0.mk H
      clear H
      obtain ⟨Ao24, co24, eo24⟩ := Kd.R_slice HO_5.out
      subst eo24
      go_upto_region 11 with (first | ((with_reducible refine gate_callee (f := 12) rfl ?_); refine goesL_ (some 52) rfl rfl Try.func12 (by kernel_rfl) rfl #[.slice Ao24 x5_13.length co24] rfl (by (try simp only [List.map_toArray, List.map_cons, List.map_nil]); first | done | rfl | (simp only [List.length_drop, List.length_take]; rfl)) ?_; (with_reducible refine (printing_Booklet.calls kj13 _ _ x5_13 t132 t133 _ ?side1 ?side2 A21.out).mono ?_); (case side1 => repeat (first | exact (Kd.R_reads' HO_5.out).2.2 | (with_reducible refine Kd.C_alloc ?_ _) | (with_reducible refine Kd.C_drewN ?_ _) | (with_reducible refine Kd.C_drew ?_))); (case side2 => exact (Kd.R_reads' HO_5.out).2.1); rintro e w25 ⟨v134, rfl, ho0, hb⟩; refine ⟨_, rfl, ?_⟩; have n0_ := Aside0.mk (Kd.R_below (by (with_reducible repeat (first | apply Kd.R_alloc | apply Kd.R_drewN | apply Kd.R_drew)); exact HO_5.out) hb); have n1_ := Aside0.mk (Kd.R_lower ho0 (below_size (by repeat (first | (with_reducible first | exact HB.out | apply below_alloc | apply pw_below_drewN | apply below_drew1) | exact HB.out)))); have n2_ := Aside0.mk (below_step (by repeat (first | (with_reducible first | exact HB.out | apply below_alloc | apply pw_below_drewN | apply below_drew1) | exact HB.out)) hb); clear HO_5; clear HB; have HO_5 := n0_; have HO135 := n1_; have HB := n2_; clear n0_ n1_ n2_; (try clear hb); (try clear hb2); (try clear hk); (try clear hi); (try clear ho0); obtain ⟨Ao26, co26, eo26⟩ := Kd.R_slice HO135.out; subst eo26) | ((with_reducible refine gate_callee (f := 14) rfl ?_); refine goesL_ (some 57) rfl rfl Try.func14 (by kernel_rfl) rfl #[.slice Ao26 t132.length co26] rfl (by (try simp only [List.map_toArray, List.map_cons, List.map_nil]); first | done | rfl | (simp only [List.length_drop, List.length_take]; rfl)) ?_; (with_reducible refine (printing_Read.calls kj13 _ _ t132 t136 t137 _ ?side1 ?side2 A22.out).mono ?_); (case side1 => repeat (first | exact (Kd.R_reads' HO135.out).2.2 | (with_reducible refine Kd.C_alloc ?_ _) | (with_reducible refine Kd.C_drewN ?_ _) | (with_reducible refine Kd.C_drew ?_))); (case side2 => exact (Kd.R_reads' HO135.out).2.1); rintro e w27 ⟨v138, rfl, ho0, hb⟩; refine ⟨_, rfl, ?_⟩; have n0_ := Aside0.mk (Kd.R_elder' (by (with_reducible repeat (first | apply Kd.R_alloc | apply Kd.R_drewN | apply Kd.R_drew)); exact HO_5.out) (Kd.R_base ho0) hb); have n1_ := Aside0.mk (Kd.R_below (by (with_reducible repeat (first | apply Kd.R_alloc | apply Kd.R_drewN | apply Kd.R_drew)); exact HO135.out) hb); have n2_ := Aside0.mk (Kd.R_lower (Kd.R_new' ho0 (Kd.R_lt (by (with_reducible repeat (first | apply Kd.R_alloc | apply Kd.R_drewN | apply Kd.R_drew)); exact HO_5.out))) (below_size (by repeat (first | (with_reducible first | exact HB.out | apply below_alloc | apply pw_below_drewN | apply below_drew1) | exact HB.out)))); have n3_ := Aside0.mk (below_step (by repeat (first | (with_reducible first | exact HB.out | apply below_alloc | apply pw_below_drewN | apply below_drew1) | exact HB.out)) hb); clear HO_5; clear HO135; clear HB; have HO_5 := n0_; have HO135 := n1_; have HO139 := n2_; have HB := n3_; clear n0_ n1_ n2_ n3_; (try clear hb); (try clear hb2); (try clear hk); (try clear hi); (try clear ho0)))
      (try simp only [Act.put, List.setIfInBounds_toArray, List.set_cons_zero, List.set_cons_succ])
      go_cut [88] (fun v88 wc => ∃ (kq : Nat) (x88_22 : Bool), v88 = .bool x88_22 ∧ Aside0 (ck_PrintingBookletReads.j3 kq x5_13 t136 x88_22 = some r) ∧ Aside0 (kq ≤ kj13) ∧ Aside0 (Kd.R (Kd.int .i64) 3 wc w.heap.size (fun k_ => some k_ ≠ (v138 : Value).ownBlock) (.slice Ao24 x5_13.length co24) x5_13) ∧ Aside0 (Kd.R (Kd.int .i64) 3 wc w.heap.size (fun k_ => some k_ ≠ ((.slice Ao24 x5_13.length co24) : Value).ownBlock) v138 t136) ∧ Aside0 (Below w.heap.size w wc))
      case first =>
       have H := HC23.out
       clear HC23
       by_cases c28 : t133 = 0
       ·rw [if_pos c28] at H
        have c28b0 : (t133 == 0) = true := beq_iff_eq.mpr c28
        have c28b1 : (t133 != 0) = false := bne_eq_false_iff_eq.mpr c28
        clear c28
        (first | rw [c28b0] | (simp only [i64_w, i32_w]; rw [c28b0]) | skip)
        by_cases c29 : t137 = 0
        ·rw [if_pos c29] at H
         have c29b0 : (t137 == 0) = true := beq_iff_eq.mpr c29
         have c29b1 : (t137 != 0) = false := bne_eq_false_iff_eq.mpr c29
         clear c29
         by_cases c30 : (t136.length : Int) = (wrap64 (4 * (t132.length : Int)))
         ·rw [if_pos c30] at H
          have c30b0 : ((t136.length : Int) == (wrap64 (4 * (t132.length : Int)))) = true := beq_iff_eq.mpr c30
          have c30b1 : ((t136.length : Int) != (wrap64 (4 * (t132.length : Int)))) = false := bne_eq_false_iff_eq.mpr c30
          clear c30
          by_cases c31 : (t136.length : Int) < (x5_13.length : Int)
          ·rw [if_pos c31] at H
           have c31b0 : decide ((t136.length : Int) < (x5_13.length : Int)) = true := decide_eq_true c31
           have c31b1 : decide (t136.length < x5_13.length) = true := decide_eq_true (Int.ofNat_lt.mp c31)
           clear c31
           have H' := Aside0.mk H
           clear H
           obtain ⟨Ao32, co32, eo32⟩ := Kd.R_slice HO139.out
           subst eo32
           go_wp2
           go_meet
           case rel => exact ⟨_, (true), (by first | rfl | (simp; done) | (simp [*]; done)), H', ⟨by have := HJ2.out; have := HJ13.out; first | omega | exact Nat.le_refl _⟩, ⟨by (with_reducible repeat (first | apply Kd.R_alloc | apply Kd.R_drewN | apply Kd.R_drew)); exact Kd.R_mono HO_5.out (fun _ hk => hk.2)⟩, ⟨by (with_reducible repeat (first | apply Kd.R_alloc | apply Kd.R_drewN | apply Kd.R_drew)); exact Kd.R_mono HO139.out (fun _ hk => hk.2)⟩, ⟨by repeat (first | (with_reducible first | exact HB.out | apply below_alloc | apply pw_below_drewN | apply below_drew1) | exact HB.out)⟩⟩
          ·rw [if_neg c31] at H
           have c31b0 : decide ((t136.length : Int) < (x5_13.length : Int)) = false := decide_eq_false c31
           have c31b1 : decide (t136.length < x5_13.length) = false := decide_eq_false (fun h => c31 (Int.ofNat_lt.mpr h))
           clear c31
           have H' := Aside0.mk H
           clear H
           obtain ⟨Ao33, co33, eo33⟩ := Kd.R_slice HO139.out
           subst eo33
           go_wp2
           go_meet
           case rel => exact ⟨_, (decide ((t136.length : Int) > (wrap64 ((x5_13.length : Int) + 3)))), (by first | rfl | (simp; done) | (simp [*]; done)), H', ⟨by have := HJ2.out; have := HJ13.out; first | omega | exact Nat.le_refl _⟩, ⟨by (with_reducible repeat (first | apply Kd.R_alloc | apply Kd.R_drewN | apply Kd.R_drew)); exact Kd.R_mono HO_5.out (fun _ hk => hk.2)⟩, ⟨by (with_reducible repeat (first | apply Kd.R_alloc | apply Kd.R_drewN | apply Kd.R_drew)); exact Kd.R_mono HO139.out (fun _ hk => hk.2)⟩, ⟨by repeat (first | (with_reducible first | exact HB.out | apply below_alloc | apply pw_below_drewN | apply below_drew1) | exact HB.out)⟩⟩
         ·rw [if_neg c30] at H
          have c30b0 : ((t136.length : Int) == (wrap64 (4 * (t132.length : Int)))) = false := beq_eq_false_iff_ne.mpr c30
          have c30b1 : ((t136.length : Int) != (wrap64 (4 * (t132.length : Int)))) = true := bne_iff_ne.mpr c30
          have H' := Aside0.mk H
          clear H
          obtain ⟨Ao34, co34, eo34⟩ := Kd.R_slice HO139.out
          subst eo34
          go_wp2
          go_meet
          case rel => exact ⟨_, (true), (by first | rfl | (simp; done) | (simp [*]; done)), H', ⟨by have := HJ2.out; have := HJ13.out; first | omega | exact Nat.le_refl _⟩, ⟨by (with_reducible repeat (first | apply Kd.R_alloc | apply Kd.R_drewN | apply Kd.R_drew)); exact Kd.R_mono HO_5.out (fun _ hk => hk.2)⟩, ⟨by (with_reducible repeat (first | apply Kd.R_alloc | apply Kd.R_drewN | apply Kd.R_drew)); exact Kd.R_mono HO139.out (fun _ hk => hk.2)⟩, ⟨by repeat (first | (with_reducible first | exact HB.out | apply below_alloc | apply pw_below_drewN | apply below_drew1) | exact HB.out)⟩⟩
        ·rw [if_neg c29] at H
         have c29b0 : (t137 == 0) = false := beq_eq_false_iff_ne.mpr c29
         have c29b1 : (t137 != 0) = true := bne_iff_ne.mpr c29
         have H' := Aside0.mk H
         clear H
         go_wp2
         go_meet
         case rel => exact ⟨_, (true), (by first | rfl | (simp; done) | (simp [*]; done)), H', ⟨by have := HJ2.out; have := HJ13.out; first | omega | exact Nat.le_refl _⟩, ⟨by (with_reducible repeat (first | apply Kd.R_alloc | apply Kd.R_drewN | apply Kd.R_drew)); exact Kd.R_mono HO_5.out (fun _ hk => hk.2)⟩, ⟨by (with_reducible repeat (first | apply Kd.R_alloc | apply Kd.R_drewN | apply Kd.R_drew)); exact Kd.R_mono HO139.out (fun _ hk => hk.2)⟩, ⟨by repeat (first | (with_reducible first | exact HB.out | apply below_alloc | apply pw_below_drewN | apply below_drew1) | exact HB.out)⟩⟩
       ·rw [if_neg c28] at H
        have c28b0 : (t133 == 0) = false := beq_eq_false_iff_ne.mpr c28
        have c28b1 : (t133 != 0) = true := bne_iff_ne.mpr c28
        (first | rw [c28b0] | (simp only [i64_w, i32_w]; rw [c28b0]) | skip)
        have H' := Aside0.mk H
        clear H
        go_wp2
        go_meet
        case rel => exact ⟨_, (true), (by first | rfl | (simp; done) | (simp [*]; done)), H', ⟨by have := HJ2.out; have := HJ13.out; first | omega | exact Nat.le_refl _⟩, ⟨by (with_reducible repeat (first | apply Kd.R_alloc | apply Kd.R_drewN | apply Kd.R_drew)); exact Kd.R_mono HO_5.out (fun _ hk => hk.2)⟩, ⟨by (with_reducible repeat (first | apply Kd.R_alloc | apply Kd.R_drewN | apply Kd.R_drew)); exact Kd.R_mono HO139.out (fun _ hk => hk.2)⟩, ⟨by repeat (first | (with_reducible first | exact HB.out | apply below_alloc | apply pw_below_drewN | apply below_drew1) | exact HB.out)⟩⟩
      case rest =>
       clear HC23
       try clear c1
       try clear p1
       try clear q1
       try clear hx1
       try clear qi1
       try clear c2
       try clear p2
       try clear c3
       try clear c4
       try clear p6
       try clear c8
       try clear c8b0
       try clear c8b1
       try clear c9
       try clear c9b0
       try clear c9b1
       try clear c10
       try clear c10b0
       try clear c10b1
       try clear c12
       try clear p12
       try clear q12
       try clear hx12
       try clear qi12
       try clear c13
       try clear c14
       try clear c15
       try clear c15b0
       try clear c16
       try clear c16b0
       try clear c17
       try clear c17b0
       try clear c19
       try clear c28
       try clear c28b0
       try clear c28b1
       try clear c29
       try clear c29b0
       try clear c29b1
       try clear c30
       try clear c30b0
       try clear c30b1
       try clear c31
       try clear c31b0
       try clear c31b1
       try clear hx126_0
       try clear hx126_1
       try clear hx126_2
       try clear hx126_3
       try clear hx127_0
       try clear p1
       try clear p12
       try clear p126
       try clear p127
       try clear p2
       try clear p6
       try clear q1
       try clear q12
       try clear q126
       try clear q127
       obtain ⟨kq, x88_22, rfl, HA, HJ22, HO_5, HO_9, HB⟩ := hcut
       cases kq with
       | zero => exact absurd HA.out (by simp [ck_PrintingBookletReads.j3])
       | succ kj22 =>
        have H := HA.out
        clear HA
        simp only [ck_PrintingBookletReads.j3] at H
        by_cases c35 : x88_22 = true
        ·subst c35
         have H1 : (some false) = some r := by rw [if_pos rfl] at H; exact H
         clear H
         have H := H1
         clear H1
         obtain rfl := Option.some.inj H
         go_wp2
         go_ret
         exact ⟨by first | rfl | (simp [errW_none, errW_some] <;> rfl) | (simp [*, errW_none, errW_some] <;> rfl), by repeat (first | (with_reducible first | exact HB.out | apply below_alloc | apply pw_below_drewN | apply below_drew1) | exact HB.out)⟩
        ·replace c35 := Bool.eq_false_iff.mpr c35
         subst c35
         have H1 : (ck_PrintingBookletReads.l1 kj22 x5_13 t136 (t136.length : Int) 0) = some r := by rw [if_neg (show ¬ (false = true) by decide)] at H; exact H
         clear H
         have H := H1
         clear H1
         have H' := Aside0.mk H
         clear H
         obtain ⟨Ao36, co36, eo36⟩ := Kd.R_slice HO_9.out
         subst eo36
         go_wp2
         go_loopg [91] kj22 (fun kq v91 w' => ∃ (x91_4 : Int), v91 = .int .i64 x91_4 ∧ Aside0 (ck_PrintingBookletReads.l1 kq x5_13 t136 (t136.length : Int) x91_4 = some r) ∧ Aside0 (kq ≤ kj22) ∧ Aside0 (Kd.R (Kd.int .i64) 3 w' w.heap.size (fun k_ => some k_ ≠ ((.slice Ao36 t136.length co36) : Value).ownBlock) (.slice Ao24 x5_13.length co24) x5_13) ∧ Aside0 (Kd.R (Kd.int .i64) 3 w' w.heap.size (fun k_ => some k_ ≠ ((.slice Ao24 x5_13.length co24) : Value).ownBlock) (.slice Ao36 t136.length co36) t136) ∧ Aside0 (Below w.heap.size w w'))
         case atStart => exact ⟨(0), (by first | rfl | (simp; done) | (simp [*]; done)), H', ⟨Nat.le_refl _⟩, ⟨by (with_reducible repeat (first | apply Kd.R_alloc | apply Kd.R_drewN | apply Kd.R_drew)); exact HO_5.out⟩, ⟨by (with_reducible repeat (first | apply Kd.R_alloc | apply Kd.R_drewN | apply Kd.R_drew)); exact HO_9.out⟩, ⟨by repeat (first | (with_reducible first | exact HB.out | apply below_alloc | apply pw_below_drewN | apply below_drew1) | exact HB.out)⟩⟩
         case round =>
          clear H'
          try clear c1
          try clear p1
          try clear q1
          try clear hx1
          try clear qi1
          try clear c2
          try clear p2
          try clear c3
          try clear c4
          try clear p6
          try clear c8
          try clear c8b0
          try clear c8b1
          try clear c9
          try clear c9b0
          try clear c9b1
          try clear c10
          try clear c10b0
          try clear c10b1
          try clear c12
          try clear p12
          try clear q12
          try clear hx12
          try clear qi12
          try clear c13
          try clear c14
          try clear c15
          try clear c15b0
          try clear c16
          try clear c16b0
          try clear c17
          try clear c17b0
          try clear c19
          try clear c28
          try clear c28b0
          try clear c28b1
          try clear c29
          try clear c29b0
          try clear c29b1
          try clear c30
          try clear c30b0
          try clear c30b1
          try clear c31
          try clear c31b0
          try clear c31b1
          try clear c35
          try clear hx126_0
          try clear hx126_1
          try clear hx126_2
          try clear hx126_3
          try clear hx127_0
          try clear p1
          try clear p12
          try clear p126
          try clear p127
          try clear p2
          try clear p6
          try clear q1
          try clear q12
          try clear q126
          try clear q127
          obtain ⟨x91_4, rfl, HA, HK4, HO_5, HO_89, HB⟩ := hrel
          cases gk with
          | zero => exact absurd HA.out (by simp [ck_PrintingBookletReads.l1])
          | succ k4 =>
           have H := HA.out
           clear HA
           simp only [ck_PrintingBookletReads.l1] at H
           by_cases c37 : x91_4 < (t136.length : Int)
           ·rw [if_pos c37] at H
            have c37b0 : decide (x91_4 < (t136.length : Int)) = true := decide_eq_true c37
            clear c37
            by_cases c38 : 0 ≤ x91_4
            ·rw [if_pos c38] at H
             have c38b0 : decide (0 ≤ x91_4) = true := decide_eq_true c38
             clear c38
             by_cases c39 : x91_4 < (t136.length : Int)
             ·rw [if_pos c39] at H
              have c39b0 : decide (x91_4 < (t136.length : Int)) = true := decide_eq_true c39
              clear c39
              by_cases c40 : x91_4 < (x5_13.length : Int)
              ·rw [if_pos c40] at H
               have c40b0 : decide (x91_4 < (x5_13.length : Int)) = true := decide_eq_true c40
               clear c40
               by_cases c41 : (rd t136 x91_4) = (rd x5_13 x91_4)
               ·rw [if_pos c41] at H
                have c41b0 : ((rd t136 x91_4) == (rd x5_13 x91_4)) = true := beq_iff_eq.mpr c41
                have c41b1 : ((rd t136 x91_4) != (rd x5_13 x91_4)) = false := bne_eq_false_iff_eq.mpr c41
                clear c41
                by_cases c42 : x91_4 ≥ (x5_13.length : Int)
                ·rw [if_pos c42] at H
                 have c42b0 : decide ((x5_13.length : Int) ≤ x91_4) = true := decide_eq_true c42
                 clear c42
                 by_cases c43 : (rd t136 x91_4) = 0
                 ·rw [if_pos c43] at H
                  have c43b0 : ((rd t136 x91_4) == 0) = true := beq_iff_eq.mpr c43
                  have c43b1 : ((rd t136 x91_4) != 0) = false := bne_eq_false_iff_eq.mpr c43
                  clear c43
                  have H' := Aside0.mk H
                  clear H
                  have p140 : 0 ≤ (x91_4 : Int) := of_decide_eq_true (by first | (with_reducible assumption) | assumption)
                  have q140 : x91_4 < (t136.length : Int) := of_decide_eq_true (by first | (with_reducible assumption) | assumption)
                  obtain ⟨ad140, e140, hx140_0⟩ := Kd.at_int (Kd.R_reads' HO_89.out).2.2 x91_4 p140 q140
                  cases e140
                  replace p140 := eq_true p140
                  replace q140 := eq_true q140
                  have p141 : 0 ≤ (x91_4 : Int) := of_decide_eq_true (by first | (with_reducible assumption) | assumption)
                  have q141 : x91_4 < (x5_13.length : Int) := of_decide_eq_true (by first | (with_reducible assumption) | assumption)
                  obtain ⟨ad141, e141, hx141_0⟩ := Kd.at_int (Kd.R_reads' HO_5.out).2.2 x91_4 p141 q141
                  cases e141
                  replace p141 := eq_true p141
                  replace q141 := eq_true q141
                  go_wp2
                  go_roundg k4
                  case measure => have := HJ2.out; have := HJ13.out; have := HJ22.out; have := HK4.out; omega
                  case rel => exact ⟨(wrap64 (x91_4 + 1)), (by first | rfl | (simp; done) | (simp [*]; done)), H', ⟨by have := HJ2.out; have := HJ13.out; have := HJ22.out; have := HK4.out; omega⟩, ⟨by (with_reducible repeat (first | apply Kd.R_alloc | apply Kd.R_drewN | apply Kd.R_drew)); exact HO_5.out⟩, ⟨by (with_reducible repeat (first | apply Kd.R_alloc | apply Kd.R_drewN | apply Kd.R_drew)); exact HO_89.out⟩, ⟨by repeat (first | (with_reducible first | exact HB.out | apply below_alloc | apply pw_below_drewN | apply below_drew1) | exact HB.out)⟩⟩
                 ·rw [if_neg c43] at H
                  have c43b0 : ((rd t136 x91_4) == 0) = false := beq_eq_false_iff_ne.mpr c43
                  have c43b1 : ((rd t136 x91_4) != 0) = true := bne_iff_ne.mpr c43
                  obtain rfl := Option.some.inj H
                  have p140 : 0 ≤ (x91_4 : Int) := of_decide_eq_true (by first | (with_reducible assumption) | assumption)
                  have q140 : x91_4 < (t136.length : Int) := of_decide_eq_true (by first | (with_reducible assumption) | assumption)
                  obtain ⟨ad140, e140, hx140_0⟩ := Kd.at_int (Kd.R_reads' HO_89.out).2.2 x91_4 p140 q140
                  cases e140
                  replace p140 := eq_true p140
                  replace q140 := eq_true q140
                  have p141 : 0 ≤ (x91_4 : Int) := of_decide_eq_true (by first | (with_reducible assumption) | assumption)
                  have q141 : x91_4 < (x5_13.length : Int) := of_decide_eq_true (by first | (with_reducible assumption) | assumption)
                  obtain ⟨ad141, e141, hx141_0⟩ := Kd.at_int (Kd.R_reads' HO_5.out).2.2 x91_4 p141 q141
                  cases e141
                  replace p141 := eq_true p141
                  replace q141 := eq_true q141
                  go_wp2
                  go_ret
                  exact ⟨by first | rfl | (simp [errW_none, errW_some] <;> rfl) | (simp [*, errW_none, errW_some] <;> rfl), by repeat (first | (with_reducible first | exact HB.out | apply below_alloc | apply pw_below_drewN | apply below_drew1) | exact HB.out)⟩
                ·rw [if_neg c42] at H
                 have c42b0 : decide ((x5_13.length : Int) ≤ x91_4) = false := decide_eq_false c42
                 clear c42
                 have H' := Aside0.mk H
                 clear H
                 have p140 : 0 ≤ (x91_4 : Int) := of_decide_eq_true (by first | (with_reducible assumption) | assumption)
                 have q140 : x91_4 < (t136.length : Int) := of_decide_eq_true (by first | (with_reducible assumption) | assumption)
                 obtain ⟨ad140, e140, hx140_0⟩ := Kd.at_int (Kd.R_reads' HO_89.out).2.2 x91_4 p140 q140
                 cases e140
                 replace p140 := eq_true p140
                 replace q140 := eq_true q140
                 have p141 : 0 ≤ (x91_4 : Int) := of_decide_eq_true (by first | (with_reducible assumption) | assumption)
                 have q141 : x91_4 < (x5_13.length : Int) := of_decide_eq_true (by first | (with_reducible assumption) | assumption)
                 obtain ⟨ad141, e141, hx141_0⟩ := Kd.at_int (Kd.R_reads' HO_5.out).2.2 x91_4 p141 q141
                 cases e141
                 replace p141 := eq_true p141
                 replace q141 := eq_true q141
                 go_wp2
                 go_roundg k4
                 case measure => have := HJ2.out; have := HJ13.out; have := HJ22.out; have := HK4.out; omega
                 case rel => exact ⟨(wrap64 (x91_4 + 1)), (by first | rfl | (simp; done) | (simp [*]; done)), H', ⟨by have := HJ2.out; have := HJ13.out; have := HJ22.out; have := HK4.out; omega⟩, ⟨by (with_reducible repeat (first | apply Kd.R_alloc | apply Kd.R_drewN | apply Kd.R_drew)); exact HO_5.out⟩, ⟨by (with_reducible repeat (first | apply Kd.R_alloc | apply Kd.R_drewN | apply Kd.R_drew)); exact HO_89.out⟩, ⟨by repeat (first | (with_reducible first | exact HB.out | apply below_alloc | apply pw_below_drewN | apply below_drew1) | exact HB.out)⟩⟩
               ·rw [if_neg c41] at H
                have c41b0 : ((rd t136 x91_4) == (rd x5_13 x91_4)) = false := beq_eq_false_iff_ne.mpr c41
                have c41b1 : ((rd t136 x91_4) != (rd x5_13 x91_4)) = true := bne_iff_ne.mpr c41
                obtain rfl := Option.some.inj H
                have p140 : 0 ≤ (x91_4 : Int) := of_decide_eq_true (by first | (with_reducible assumption) | assumption)
                have q140 : x91_4 < (t136.length : Int) := of_decide_eq_true (by first | (with_reducible assumption) | assumption)
                obtain ⟨ad140, e140, hx140_0⟩ := Kd.at_int (Kd.R_reads' HO_89.out).2.2 x91_4 p140 q140
                cases e140
                replace p140 := eq_true p140
                replace q140 := eq_true q140
                have p141 : 0 ≤ (x91_4 : Int) := of_decide_eq_true (by first | (with_reducible assumption) | assumption)
                have q141 : x91_4 < (x5_13.length : Int) := of_decide_eq_true (by first | (with_reducible assumption) | assumption)
                obtain ⟨ad141, e141, hx141_0⟩ := Kd.at_int (Kd.R_reads' HO_5.out).2.2 x91_4 p141 q141
                cases e141
                replace p141 := eq_true p141
                replace q141 := eq_true q141
                go_wp2
                go_ret
                exact ⟨by first | rfl | (simp [errW_none, errW_some] <;> rfl) | (simp [*, errW_none, errW_some] <;> rfl), by repeat (first | (with_reducible first | exact HB.out | apply below_alloc | apply pw_below_drewN | apply below_drew1) | exact HB.out)⟩
              ·rw [if_neg c40] at H
               have c40b0 : decide (x91_4 < (x5_13.length : Int)) = false := decide_eq_false c40
               clear c40
               by_cases c44 : x91_4 ≥ (x5_13.length : Int)
               ·rw [if_pos c44] at H
                have c44b0 : decide ((x5_13.length : Int) ≤ x91_4) = true := decide_eq_true c44
                clear c44
                by_cases c45 : (rd t136 x91_4) = 0
                ·rw [if_pos c45] at H
                 have c45b0 : ((rd t136 x91_4) == 0) = true := beq_iff_eq.mpr c45
                 have c45b1 : ((rd t136 x91_4) != 0) = false := bne_eq_false_iff_eq.mpr c45
                 clear c45
                 have H' := Aside0.mk H
                 clear H
                 have p140 : 0 ≤ (x91_4 : Int) := of_decide_eq_true (by first | (with_reducible assumption) | assumption)
                 have q140 : x91_4 < (t136.length : Int) := of_decide_eq_true (by first | (with_reducible assumption) | assumption)
                 obtain ⟨ad140, e140, hx140_0⟩ := Kd.at_int (Kd.R_reads' HO_89.out).2.2 x91_4 p140 q140
                 cases e140
                 replace p140 := eq_true p140
                 replace q140 := eq_true q140
                 go_wp2
                 go_roundg k4
                 case measure => have := HJ2.out; have := HJ13.out; have := HJ22.out; have := HK4.out; omega
                 case rel => exact ⟨(wrap64 (x91_4 + 1)), (by first | rfl | (simp; done) | (simp [*]; done)), H', ⟨by have := HJ2.out; have := HJ13.out; have := HJ22.out; have := HK4.out; omega⟩, ⟨by (with_reducible repeat (first | apply Kd.R_alloc | apply Kd.R_drewN | apply Kd.R_drew)); exact HO_5.out⟩, ⟨by (with_reducible repeat (first | apply Kd.R_alloc | apply Kd.R_drewN | apply Kd.R_drew)); exact HO_89.out⟩, ⟨by repeat (first | (with_reducible first | exact HB.out | apply below_alloc | apply pw_below_drewN | apply below_drew1) | exact HB.out)⟩⟩
                ·rw [if_neg c45] at H
                 have c45b0 : ((rd t136 x91_4) == 0) = false := beq_eq_false_iff_ne.mpr c45
                 have c45b1 : ((rd t136 x91_4) != 0) = true := bne_iff_ne.mpr c45
                 obtain rfl := Option.some.inj H
                 have p140 : 0 ≤ (x91_4 : Int) := of_decide_eq_true (by first | (with_reducible assumption) | assumption)
                 have q140 : x91_4 < (t136.length : Int) := of_decide_eq_true (by first | (with_reducible assumption) | assumption)
                 obtain ⟨ad140, e140, hx140_0⟩ := Kd.at_int (Kd.R_reads' HO_89.out).2.2 x91_4 p140 q140
                 cases e140
                 replace p140 := eq_true p140
                 replace q140 := eq_true q140
                 go_wp2
                 go_ret
                 exact ⟨by first | rfl | (simp [errW_none, errW_some] <;> rfl) | (simp [*, errW_none, errW_some] <;> rfl), by repeat (first | (with_reducible first | exact HB.out | apply below_alloc | apply pw_below_drewN | apply below_drew1) | exact HB.out)⟩
               ·rw [if_neg c44] at H
                have c44b0 : decide ((x5_13.length : Int) ≤ x91_4) = false := decide_eq_false c44
                clear c44
                have H' := Aside0.mk H
                clear H
                have p140 : 0 ≤ (x91_4 : Int) := of_decide_eq_true (by first | (with_reducible assumption) | assumption)
                have q140 : x91_4 < (t136.length : Int) := of_decide_eq_true (by first | (with_reducible assumption) | assumption)
                obtain ⟨ad140, e140, hx140_0⟩ := Kd.at_int (Kd.R_reads' HO_89.out).2.2 x91_4 p140 q140
                cases e140
                replace p140 := eq_true p140
                replace q140 := eq_true q140
                go_wp2
                go_roundg k4
                case measure => have := HJ2.out; have := HJ13.out; have := HJ22.out; have := HK4.out; omega
                case rel => exact ⟨(wrap64 (x91_4 + 1)), (by first | rfl | (simp; done) | (simp [*]; done)), H', ⟨by have := HJ2.out; have := HJ13.out; have := HJ22.out; have := HK4.out; omega⟩, ⟨by (with_reducible repeat (first | apply Kd.R_alloc | apply Kd.R_drewN | apply Kd.R_drew)); exact HO_5.out⟩, ⟨by (with_reducible repeat (first | apply Kd.R_alloc | apply Kd.R_drewN | apply Kd.R_drew)); exact HO_89.out⟩, ⟨by repeat (first | (with_reducible first | exact HB.out | apply below_alloc | apply pw_below_drewN | apply below_drew1) | exact HB.out)⟩⟩
             ·rw [if_neg c39] at H
              exact absurd H (by simp)
            ·rw [if_neg c38] at H
             exact absurd H (by simp)
           ·rw [if_neg c37] at H
            have c37b0 : decide (x91_4 < (t136.length : Int)) = false := decide_eq_false c37
            clear c37
            obtain rfl := Option.some.inj H
            go_wp2
            go_ret
            exact ⟨by first | rfl | (simp [errW_none, errW_some] <;> rfl) | (simp [*, errW_none, errW_some] <;> rfl), by repeat (first | (with_reducible first | exact HB.out | apply below_alloc | apply pw_below_drewN | apply below_drew1) | exact HB.out)⟩

/-- THE ONE PURE STATEMENT of ck_PrintingBookletReads: yours. -/
def ck_PrintingBookletReads.Pure : Prop := ∀ (l0 : List Int), l0.length ≤ maxLen → l0.length * 8 ≤ 140737488351232 → (∀ x ∈ l0, (Lit.int .i64 x).wf = true) → ∃ k, ck_PrintingBookletReads.f k l0 = some true
theorem ck_PrintingBookletReads.walk (P : ck_PrintingBookletReads.Pure) (a0 : Option Addr) (len0 cap0 : Nat) (z0 : List Int) (w : World) (w0 : (a0 = none ∧ len0 = 0 ∧ cap0 = 0 ∧ z0 = []) ∨ ∃ x, a0 = some x ∧ len0 ≤ cap0 ∧ cap0 ≤ maxLen ∧ z0.length = cap0 ∧ (∀ i, i < z0.length → w.cell? (x.add i) = some (.int .i64 (z0.getD i 0))) ∧ ∀ n ∈ z0, (Lit.int .i64 n).wf = true) (y0 : len0 * 8 ≤ 140737488351232) :
  Calls Try.prog 4 #[.slice a0 len0 cap0] w fun e w' => e = .returned (.bool true) ∧ Below w.heap.size w w' := by
 obtain ⟨l0, rfl, hr0, hm0, hw0, hc0⟩ := ReadsInt.ofRowC w0
 obtain ⟨k, h⟩ := P l0 hm0 y0 hw0
 refine (ck_PrintingBookletReads.calls k _ _ l0 true w (Kd.C_of_reads (d := (0 : Int)) (h1 := fun _ => rfl) hr0) hc0 h).mono ?_
 rintro e w' ⟨rfl, hd⟩
 exact ⟨rfl, hd⟩

end Go.Proofs.Ytohaoaiffneamaa.QPrintingBookletReads
