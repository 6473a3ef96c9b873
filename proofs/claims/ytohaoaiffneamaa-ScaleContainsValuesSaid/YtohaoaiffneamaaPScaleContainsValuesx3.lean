-- PRINTED BY print.sh 35421559b90ae4d0a3588c463048766b98c2df88dd9212a6774a882060cdf62d: not written by this session
import Derived.Test.YtohaoaiffneamaaPScaleContainsValuesx0
import Derived.Test.YtohaoaiffneamaaPScaleContainsValuesx1
import Derived.Test.YtohaoaiffneamaaPScaleContainsValuesx2
namespace Go.Proofs.Ytohaoaiffneamaa.PScaleContainsValues
open Go.RowKit Go.Proofs.YtohaoaiffneamaaW.PrintWords Go.Proofs.YtohaoaiffneamaaW.PrintLast Go.Proofs.YtohaoaiffneamaaW.PrintMore
attribute [local go_sem] max2_int min2_int max_two min_two max_three min_three max_four min_four   -- for this text's walks alone
set_option linter.unusedVariables false
set_option linter.unusedSimpArgs false

/-! ### chancerykeep3_ScaleContainsValues: function 5 -/
mutual
def chancerykeep3_ScaleContainsValues.j0 : Nat → Int → Int → Int → Int → Bool → Option (Bool)
  | 0, _, _, _, _, _ => none
  | k + 1, x0, x1, x2, x3, x32 => if x32 = true then (some false) else ((chancerykeep3_within.f x0 (-1000000000000) 1000000000000).bind fun t128 => ((chancerykeep3_within.f x1 (-1000000000000) 1000000000000).bind fun t129 => ((chancerykeep3_within.f x2 2 50).bind fun t130 => ((chancerykeep3_within.f x3 0 100000).bind fun t131 => ((scale_Find.f k (mn t128 t129) (mx t128 t129) t130).bind fun bt132 => (if bt132.2.2.2 = 0 then ((scale_Check.f k bt132.1 bt132.2.1 bt132.2.2.1).bind fun t137 => (if t137 = 0 then (if bt132.1 > (mn t128 t129) then (chancerykeep3_ScaleContainsValues.j1 k t131 true bt132.1 bt132.2.1 bt132.2.2.1) else (if bt132.2.1 < (mx t128 t129) then (chancerykeep3_ScaleContainsValues.j1 k t131 true bt132.1 bt132.2.1 bt132.2.2.1) else (if bt132.1 ≤ (wrap64 ((mn t128 t129) - bt132.2.2.1)) then (chancerykeep3_ScaleContainsValues.j1 k t131 true bt132.1 bt132.2.1 bt132.2.2.1) else (if bt132.2.1 > (wrap64 ((mx t128 t129) + bt132.2.2.1)) then (chancerykeep3_ScaleContainsValues.j1 k t131 true bt132.1 bt132.2.1 bt132.2.2.1) else (if bt132.2.2.1 = 0 then (none) else (chancerykeep3_ScaleContainsValues.j1 k t131 (decide ((wrap64 (Int.tdiv (wrap64 (bt132.2.1 - bt132.1)) bt132.2.2.1)) > t130)) bt132.1 bt132.2.1 bt132.2.2.1)))))) else (chancerykeep3_ScaleContainsValues.j1 k t131 true bt132.1 bt132.2.1 bt132.2.2.1))) else (chancerykeep3_ScaleContainsValues.j1 k t131 true bt132.1 bt132.2.1 bt132.2.2.1)))))))
def chancerykeep3_ScaleContainsValues.j1 : Nat → Int → Bool → Int → Int → Int → Option (Bool)
  | 0, _, _, _, _, _ => none
  | k + 1, x3, x102, x137000, x137001, x137002 => if x102 = true then (some false) else ((scale_Marks.f k x137000 x137001 x137002).bind fun bt138 => (if bt138.2 = 0 then (if x137002 = 0 then (none) else (chancerykeep3_ScaleContainsValues.j2 k x3 bt138.1 ((bt138.1.length : Int) != (wrap64 ((wrap64 (Int.tdiv (wrap64 (x137001 - x137000)) x137002)) + 1))) x137000 x137001 x137002)) else (chancerykeep3_ScaleContainsValues.j2 k x3 bt138.1 true x137000 x137001 x137002)))
def chancerykeep3_ScaleContainsValues.j2 : Nat → Int → List Int → Bool → Int → Int → Int → Option (Bool)
  | 0, _, _, _, _, _, _ => none
  | k + 1, x3, x13, x123, x137000, x137001, x137002 => if x123 = true then (some false) else (chancerykeep3_ScaleContainsValues.l0 k x3 x13 0 x13 (x13.length : Int) 0 x137000 x137001 x137002)
def chancerykeep3_ScaleContainsValues.l0 : Nat → Int → List Int → Int → List Int → Int → Int → Int → Int → Int → Option (Bool)
  | 0, _, _, _, _, _, _, _, _, _ => none
  | k + 1, x3, x13, x15, x124, x125, x126, x137000, x137001, x137002 => if x126 < x125 then (if 0 ≤ x126 then (if x126 < (x124.length : Int) then ((scale_Place.f k x137000 x137001 x137002 (rd x124 x126) x3).bind fun bt143 => (if bt143.2 = 0 then (if bt143.1 < x15 then (some false) else (if x126 = 0 then (if bt143.1 = 0 then (if x126 = (wrap64 ((x13.length : Int) - 1)) then (if bt143.1 = x3 then (chancerykeep3_ScaleContainsValues.l0 k x3 x13 bt143.1 x124 x125 (wrap64 (x126 + 1)) x137000 x137001 x137002) else (some false)) else (chancerykeep3_ScaleContainsValues.l0 k x3 x13 bt143.1 x124 x125 (wrap64 (x126 + 1)) x137000 x137001 x137002)) else (some false)) else (if x126 = (wrap64 ((x13.length : Int) - 1)) then (if bt143.1 = x3 then (chancerykeep3_ScaleContainsValues.l0 k x3 x13 bt143.1 x124 x125 (wrap64 (x126 + 1)) x137000 x137001 x137002) else (some false)) else (chancerykeep3_ScaleContainsValues.l0 k x3 x13 bt143.1 x124 x125 (wrap64 (x126 + 1)) x137000 x137001 x137002)))) else (some false))) else (none)) else (none)) else (some true)
end
def chancerykeep3_ScaleContainsValues.f (k : Nat) (a0 : Int) (a1 : Int) (a2 : Int) (a3 : Int) : Option (Bool) := (scale_Marks.f k 0 4 2).bind fun bt120 => (if bt120.2 = 0 then ((slices_Equal_int_int.f k bt120.1 (([0, 2, 4] : List Int))).bind fun t127 => (chancerykeep3_ScaleContainsValues.j0 k a0 a1 a2 a3 (!t127))) else (chancerykeep3_ScaleContainsValues.j0 k a0 a1 a2 a3 true))
theorem chancerykeep3_ScaleContainsValues.mono_l : ∀ k, (∀ y0 y1 y2 y3 y4, LeO (chancerykeep3_ScaleContainsValues.j0 k y0 y1 y2 y3 y4) (chancerykeep3_ScaleContainsValues.j0 (k + 1) y0 y1 y2 y3 y4)) ∧ (∀ y0 y1 y2 y3 y4, LeO (chancerykeep3_ScaleContainsValues.j1 k y0 y1 y2 y3 y4) (chancerykeep3_ScaleContainsValues.j1 (k + 1) y0 y1 y2 y3 y4)) ∧ (∀ y0 y1 y2 y3 y4 y5, LeO (chancerykeep3_ScaleContainsValues.j2 k y0 y1 y2 y3 y4 y5) (chancerykeep3_ScaleContainsValues.j2 (k + 1) y0 y1 y2 y3 y4 y5)) ∧ (∀ y0 y1 y2 y3 y4 y5 y6 y7 y8, LeO (chancerykeep3_ScaleContainsValues.l0 k y0 y1 y2 y3 y4 y5 y6 y7 y8) (chancerykeep3_ScaleContainsValues.l0 (k + 1) y0 y1 y2 y3 y4 y5 y6 y7 y8))
  | 0 => ⟨fun _ _ _ _ _ r h => by simp [chancerykeep3_ScaleContainsValues.j0] at h, fun _ _ _ _ _ r h => by simp [chancerykeep3_ScaleContainsValues.j1] at h, fun _ _ _ _ _ _ r h => by simp [chancerykeep3_ScaleContainsValues.j2] at h, fun _ _ _ _ _ _ _ _ _ r h => by simp [chancerykeep3_ScaleContainsValues.l0] at h⟩
  | k + 1 => by
    obtain ⟨ih0, ih1, ih2, ih3⟩ := chancerykeep3_ScaleContainsValues.mono_l k
    refine ⟨?_, ?_, ?_, ?_⟩
    · intro y0 y1 y2 y3 y4
      unfold chancerykeep3_ScaleContainsValues.j0
      repeat' first
      | (with_reducible exact ih0 _ _ _ _ _)
      | (with_reducible exact ih1 _ _ _ _ _)
      | (with_reducible exact ih2 _ _ _ _ _ _)
      | (with_reducible exact ih3 _ _ _ _ _ _ _ _ _)
      | (with_reducible exact scale_Check.mono _ _ _ _)
      | (with_reducible exact scale_Find.mono _ _ _ _)
      | (with_reducible exact scale_Marks.mono _ _ _ _)
      | (with_reducible exact scale_Place.mono _ _ _ _ _ _)
      | (with_reducible exact slices_Equal_int_int.mono _ _ _)
      | (with_reducible exact LeO.refl _)
      | (with_reducible exact LeO.none _)
      | (with_reducible refine LeO.ite ?_ ?_)
      | (with_reducible refine LeO.bind ?_ (fun _ => ?_))
      | exact ih0 _ _ _ _ _
      | exact ih1 _ _ _ _ _
      | exact ih2 _ _ _ _ _ _
      | exact ih3 _ _ _ _ _ _ _ _ _
      | exact scale_Check.mono _ _ _ _
      | exact scale_Find.mono _ _ _ _
      | exact scale_Marks.mono _ _ _ _
      | exact scale_Place.mono _ _ _ _ _ _
      | exact slices_Equal_int_int.mono _ _ _
      | exact LeO.none _
      | refine LeO.ite ?_ ?_
      | refine LeO.bind ?_ (fun _ => ?_)
    · intro y0 y1 y2 y3 y4
      unfold chancerykeep3_ScaleContainsValues.j1
      repeat' first
      | (with_reducible exact ih0 _ _ _ _ _)
      | (with_reducible exact ih1 _ _ _ _ _)
      | (with_reducible exact ih2 _ _ _ _ _ _)
      | (with_reducible exact ih3 _ _ _ _ _ _ _ _ _)
      | (with_reducible exact scale_Check.mono _ _ _ _)
      | (with_reducible exact scale_Find.mono _ _ _ _)
      | (with_reducible exact scale_Marks.mono _ _ _ _)
      | (with_reducible exact scale_Place.mono _ _ _ _ _ _)
      | (with_reducible exact slices_Equal_int_int.mono _ _ _)
      | (with_reducible exact LeO.refl _)
      | (with_reducible exact LeO.none _)
      | (with_reducible refine LeO.ite ?_ ?_)
      | (with_reducible refine LeO.bind ?_ (fun _ => ?_))
      | exact ih0 _ _ _ _ _
      | exact ih1 _ _ _ _ _
      | exact ih2 _ _ _ _ _ _
      | exact ih3 _ _ _ _ _ _ _ _ _
      | exact scale_Check.mono _ _ _ _
      | exact scale_Find.mono _ _ _ _
      | exact scale_Marks.mono _ _ _ _
      | exact scale_Place.mono _ _ _ _ _ _
      | exact slices_Equal_int_int.mono _ _ _
      | exact LeO.none _
      | refine LeO.ite ?_ ?_
      | refine LeO.bind ?_ (fun _ => ?_)
    · intro y0 y1 y2 y3 y4 y5
      unfold chancerykeep3_ScaleContainsValues.j2
      repeat' first
      | (with_reducible exact ih0 _ _ _ _ _)
      | (with_reducible exact ih1 _ _ _ _ _)
      | (with_reducible exact ih2 _ _ _ _ _ _)
      | (with_reducible exact ih3 _ _ _ _ _ _ _ _ _)
      | (with_reducible exact scale_Check.mono _ _ _ _)
      | (with_reducible exact scale_Find.mono _ _ _ _)
      | (with_reducible exact scale_Marks.mono _ _ _ _)
      | (with_reducible exact scale_Place.mono _ _ _ _ _ _)
      | (with_reducible exact slices_Equal_int_int.mono _ _ _)
      | (with_reducible exact LeO.refl _)
      | (with_reducible exact LeO.none _)
      | (with_reducible refine LeO.ite ?_ ?_)
      | (with_reducible refine LeO.bind ?_ (fun _ => ?_))
      | exact ih0 _ _ _ _ _
      | exact ih1 _ _ _ _ _
      | exact ih2 _ _ _ _ _ _
      | exact ih3 _ _ _ _ _ _ _ _ _
      | exact scale_Check.mono _ _ _ _
      | exact scale_Find.mono _ _ _ _
      | exact scale_Marks.mono _ _ _ _
      | exact scale_Place.mono _ _ _ _ _ _
      | exact slices_Equal_int_int.mono _ _ _
      | exact LeO.none _
      | refine LeO.ite ?_ ?_
      | refine LeO.bind ?_ (fun _ => ?_)
    · intro y0 y1 y2 y3 y4 y5 y6 y7 y8
      unfold chancerykeep3_ScaleContainsValues.l0
      repeat' first
      | (with_reducible exact ih0 _ _ _ _ _)
      | (with_reducible exact ih1 _ _ _ _ _)
      | (with_reducible exact ih2 _ _ _ _ _ _)
      | (with_reducible exact ih3 _ _ _ _ _ _ _ _ _)
      | (with_reducible exact scale_Check.mono _ _ _ _)
      | (with_reducible exact scale_Find.mono _ _ _ _)
      | (with_reducible exact scale_Marks.mono _ _ _ _)
      | (with_reducible exact scale_Place.mono _ _ _ _ _ _)
      | (with_reducible exact slices_Equal_int_int.mono _ _ _)
      | (with_reducible exact LeO.refl _)
      | (with_reducible exact LeO.none _)
      | (with_reducible refine LeO.ite ?_ ?_)
      | (with_reducible refine LeO.bind ?_ (fun _ => ?_))
      | exact ih0 _ _ _ _ _
      | exact ih1 _ _ _ _ _
      | exact ih2 _ _ _ _ _ _
      | exact ih3 _ _ _ _ _ _ _ _ _
      | exact scale_Check.mono _ _ _ _
      | exact scale_Find.mono _ _ _ _
      | exact scale_Marks.mono _ _ _ _
      | exact scale_Place.mono _ _ _ _ _ _
      | exact slices_Equal_int_int.mono _ _ _
      | exact LeO.none _
      | refine LeO.ite ?_ ?_
      | refine LeO.bind ?_ (fun _ => ?_)
theorem chancerykeep3_ScaleContainsValues.mono : ∀ a0 a1 a2 a3 k, LeO (chancerykeep3_ScaleContainsValues.f k a0 a1 a2 a3) (chancerykeep3_ScaleContainsValues.f (k + 1) a0 a1 a2 a3) := by
  intro a0 a1 a2 a3 k
  obtain ⟨ih0, ih1, ih2, ih3⟩ := chancerykeep3_ScaleContainsValues.mono_l k
  unfold chancerykeep3_ScaleContainsValues.f
  repeat' first
      | (with_reducible exact ih0 _ _ _ _ _)
      | (with_reducible exact ih1 _ _ _ _ _)
      | (with_reducible exact ih2 _ _ _ _ _ _)
      | (with_reducible exact ih3 _ _ _ _ _ _ _ _ _)
      | (with_reducible exact scale_Check.mono _ _ _ _)
      | (with_reducible exact scale_Find.mono _ _ _ _)
      | (with_reducible exact scale_Marks.mono _ _ _ _)
      | (with_reducible exact scale_Place.mono _ _ _ _ _ _)
      | (with_reducible exact slices_Equal_int_int.mono _ _ _)
      | (with_reducible exact LeO.refl _)
      | (with_reducible exact LeO.none _)
      | (with_reducible refine LeO.ite ?_ ?_)
      | (with_reducible refine LeO.bind ?_ (fun _ => ?_))
      | exact ih0 _ _ _ _ _
      | exact ih1 _ _ _ _ _
      | exact ih2 _ _ _ _ _ _
      | exact ih3 _ _ _ _ _ _ _ _ _
      | exact scale_Check.mono _ _ _ _
      | exact scale_Find.mono _ _ _ _
      | exact scale_Marks.mono _ _ _ _
      | exact scale_Place.mono _ _ _ _ _ _
      | exact slices_Equal_int_int.mono _ _ _
      | exact LeO.none _
      | refine LeO.ite ?_ ?_
      | refine LeO.bind ?_ (fun _ => ?_)
set_option maxHeartbeats 8000000 in
set_option maxRecDepth 100000 in
theorem chancerykeep3_ScaleContainsValues.calls (k : Nat) (a0 : Int) (a1 : Int) (a2 : Int) (a3 : Int) (r : Bool) (w : World) (h : chancerykeep3_ScaleContainsValues.f k a0 a1 a2 a3 = some r) :
    Calls Try.prog 5 #[.int .i64 a0, .int .i64 a1, .int .i64 a2, .int .i64 a3] w fun e w' => e = .returned (.bool r) ∧ Below w.heap.size w w' := by
  have hu41 := Try.underlying41
  have HB := Aside0.mk (Below.refl w.heap.size w)
  have H : ((scale_Marks.f k 0 4 2).bind fun bt120 => (if bt120.2 = 0 then ((slices_Equal_int_int.f k bt120.1 (([0, 2, 4] : List Int))).bind fun t127 => (chancerykeep3_ScaleContainsValues.j0 k a0 a1 a2 a3 (!t127))) else (chancerykeep3_ScaleContainsValues.j0 k a0 a1 a2 a3 true))) = some r := h
  clear h
  replace H := Option.bind_eq_some_iff.mp H
  obtain ⟨⟨t120, t123⟩, A50, H⟩ := H
  replace H : (if t123 = 0 then ((slices_Equal_int_int.f k t120 (([0, 2, 4] : List Int))).bind fun t127 => (chancerykeep3_ScaleContainsValues.j0 k a0 a1 a2 a3 (!t127))) else (chancerykeep3_ScaleContainsValues.j0 k a0 a1 a2 a3 true)) = some r := H
  have A5 := Aside0.mk A50
  clear A50
  have HC6 := Aside0.mk H
  clear H
  go_enter Try.func5, Try.ntmps5
  go_upto_region 2 with (first | ((with_reducible refine gate_callee (f := 15) rfl ?_); refine goesL_ (some 22) rfl rfl Try.func15 (by kernel_rfl) rfl #[.agg #[.int .i64 0, .int .i64 4, .int .i64 2]] rfl (by (try simp only [List.map_toArray, List.map_cons, List.map_nil]); first | done | rfl | (simp only [List.length_drop, List.length_take]; rfl)) ?_; (with_reducible refine (scale_Marks.calls k 0 4 2 t120 t123 _ A5.out).mono ?_); rintro e w7 ⟨v121, rfl, ho0, hb⟩; refine ⟨_, rfl, ?_⟩; have n0_ := Aside0.mk (Kd.R_lower ho0 (below_size (by repeat (first | (with_reducible first | exact HB.out | apply below_alloc | apply pw_below_drewN | apply below_drew1) | exact HB.out)))); have n1_ := Aside0.mk (below_step (by repeat (first | (with_reducible first | exact HB.out | apply below_alloc | apply pw_below_drewN | apply below_drew1) | exact HB.out)) hb); clear HB; have HO122 := n0_; have HB := n1_; clear n0_ n1_; (try clear hb); (try clear hb2); (try clear hk); (try clear hi); (try clear ho0)))
  (try simp only [Act.put, List.setIfInBounds_toArray, List.set_cons_zero, List.set_cons_succ])
  go_cut [32] (fun v32 wc => ∃ (kq : Nat) (x32_5 : Bool), v32 = .bool x32_5 ∧ Aside0 (chancerykeep3_ScaleContainsValues.j0 kq a0 a1 a2 a3 x32_5 = some r) ∧ Aside0 (kq ≤ k) ∧ Aside0 (Below w.heap.size w wc))
  case first =>
    have H := HC6.out
    clear HC6
    by_cases c8 : t123 = 0
    · rw [if_pos c8] at H
      have c8b0 : (t123 == 0) = true := beq_iff_eq.mpr c8
      have c8b1 : (t123 != 0) = false := bne_eq_false_iff_eq.mpr c8
      clear c8
      (first | rw [c8b0] | (simp only [i64_w, i32_w]; rw [c8b0]) | skip)
      obtain ⟨y124, hy124⟩ : ∃ y_ : List Int, y_ = (([0, 2, 4] : List Int)) := ⟨_, rfl⟩
      replace H : ((slices_Equal_int_int.f k t120 y124).bind fun t127 => (chancerykeep3_ScaleContainsValues.j0 k a0 a1 a2 a3 (!t127))) = some r := by first | (rw [hy124]; with_reducible exact H) | (have H2_ := (Option.bind_some _ _).symm.trans H; rw [hy124]; with_reducible exact H2_) | (have H2_ := (Option.bind_some _ _).symm.trans H; with_reducible exact H2_) | with_reducible exact H | (rw [hy124]; exact H) | exact H
      have Ny124 := Aside0.mk hy124
      clear hy124
      replace H := Option.bind_eq_some_iff.mp H
      obtain ⟨t127, A90, H⟩ := H
      replace H : (chancerykeep3_ScaleContainsValues.j0 k a0 a1 a2 a3 (!t127)) = some r := H
      have A9 := Aside0.mk A90
      clear A90
      have H' := Aside0.mk H
      clear H
      go_wp2_with (first | ((with_reducible refine gate_dst (N := 29) rfl ?_); (try (refine gate_guard (by rfl) ?_; dsimp only)); refine Kd.R_lit (Kd.int .i64) _ 3 ?hg (N := 29) ?hd (xs := ([0, 2, 4] : List Int)) (inner := [.int .i64 0, .int .i64 2, .int .i64 4]) (ok := fun _ => True) (okp := fun _ => True) ?hr ?hp (fun _ hk => hk) trivial (Below.refl _ _) (Nat.le_refl _) (by simp) ?_; (case hd => rfl); (case hg => rfl); (case hr => first | (go_simp; done) | (go_simp; rfl)); (case hp => exact (Reps.one (show Kd.M (Kd.int .i64) _ _ _ 0 [.int .i64 0] from rfl) (Reps.one (show Kd.M (Kd.int .i64) _ _ _ 2 [.int .i64 2] from rfl) (Reps.one (show Kd.M (Kd.int .i64) _ _ _ 4 [.int .i64 4] from rfl) (Reps.none _ _))))); intro v125 w10 ho11 hb hg_ hnew_; clear hg_ hnew_; (first | rw [← Ny124.out] at ho11 | (simp only [Int.reduceToNat] at ho11; rw [← Ny124.out] at ho11)); have n0_ := Aside0.mk (Kd.R_elder' (by (with_reducible repeat (first | apply Kd.R_alloc | apply Kd.R_drewN | apply Kd.R_drew)); exact HO122.out) (Kd.R_base ho11) hb); have n1_ := Aside0.mk (Kd.R_lower (Kd.R_new' ho11 (Kd.R_lt (by (with_reducible repeat (first | apply Kd.R_alloc | apply Kd.R_drewN | apply Kd.R_drew)); exact HO122.out))) (below_size (by repeat (first | (with_reducible first | exact HB.out | apply below_alloc | apply pw_below_drewN | apply below_drew1) | exact HB.out)))); have n2_ := Aside0.mk (below_step (by repeat (first | (with_reducible first | exact HB.out | apply below_alloc | apply pw_below_drewN | apply below_drew1) | exact HB.out)) hb); clear HO122; clear HB; have HO122 := n0_; have HO126 := n1_; have HB := n2_; clear n0_ n1_ n2_; clear hb ho11; obtain ⟨Ao12, co12, eo12⟩ := Kd.R_slice HO122.out; subst eo12; obtain ⟨Ao13, co13, eo13⟩ := Kd.R_slice HO126.out; subst eo13) | (go_at_call 16; (with_reducible refine (slices_Equal_int_int.calls k _ _ t120 _ _ y124 t127 _ ?side1 ?side2 ?side3 ?side4 A9.out).mono ?_); (case side1 => repeat (first | exact (Kd.R_reads' HO122.out).2.2 | (with_reducible refine Kd.C_alloc ?_ _) | (with_reducible refine Kd.C_drewN ?_ _) | (with_reducible refine Kd.C_drew ?_))); (case side2 => exact (Kd.R_reads' HO122.out).2.1); (case side3 => repeat (first | exact (Kd.R_reads' HO126.out).2.2 | (with_reducible refine Kd.C_alloc ?_ _) | (with_reducible refine Kd.C_drewN ?_ _) | (with_reducible refine Kd.C_drew ?_))); (case side4 => exact (Kd.R_reads' HO126.out).2.1); rintro e w' ⟨rfl, ⟨nd, rfl⟩⟩))
      go_meet
      case rel => exact ⟨_, (!t127), (by first | rfl | (simp; done) | (simp [*]; done)), H', ⟨by first | omega | exact Nat.le_refl _⟩, ⟨by repeat (first | (with_reducible first | exact HB.out | apply below_alloc | apply pw_below_drewN | apply below_drew1) | exact HB.out)⟩⟩
    · rw [if_neg c8] at H
      have c8b0 : (t123 == 0) = false := beq_eq_false_iff_ne.mpr c8
      have c8b1 : (t123 != 0) = true := bne_iff_ne.mpr c8
      (first | rw [c8b0] | (simp only [i64_w, i32_w]; rw [c8b0]) | skip)
      have H' := Aside0.mk H
      clear H
      go_wp2
      go_meet
      case rel => exact ⟨_, (true), (by first | rfl | (simp; done) | (simp [*]; done)), H', ⟨by first | omega | exact Nat.le_refl _⟩, ⟨by repeat (first | (with_reducible first | exact HB.out | apply below_alloc | apply pw_below_drewN | apply below_drew1) | exact HB.out)⟩⟩
  case rest =>
    clear HC6
    try clear c1
    try clear p2
    try clear p3
    try clear c5
    try clear c8
    try clear c8b0
    try clear c8b1
    obtain ⟨kq, x32_5, rfl, HA, HJ5, HB⟩ := hcut
    cases kq with
    | zero => exact absurd HA.out (by simp [chancerykeep3_ScaleContainsValues.j0])
    | succ kj5 =>
      have H := HA.out
      clear HA
      simp only [chancerykeep3_ScaleContainsValues.j0] at H
      by_cases c14 : x32_5 = true
      · subst c14
        have H1 : (some false) = some r := by rw [if_pos rfl] at H; exact H
        clear H
        have H := H1
        clear H1
        obtain rfl := Option.some.inj H
        go_wp2
        go_ret
        exact ⟨by first | rfl | (simp [errW_none, errW_some] <;> rfl) | (simp [*, errW_none, errW_some] <;> rfl), by repeat (first | (with_reducible first | exact HB.out | apply below_alloc | apply pw_below_drewN | apply below_drew1) | exact HB.out)⟩
      · replace c14 := Bool.eq_false_iff.mpr c14
        subst c14
        have H1 : ((chancerykeep3_within.f a0 (-1000000000000) 1000000000000).bind fun t128 => ((chancerykeep3_within.f a1 (-1000000000000) 1000000000000).bind fun t129 => ((chancerykeep3_within.f a2 2 50).bind fun t130 => ((chancerykeep3_within.f a3 0 100000).bind fun t131 => ((scale_Find.f kj5 (mn t128 t129) (mx t128 t129) t130).bind fun bt132 => (if bt132.2.2.2 = 0 then ((scale_Check.f kj5 bt132.1 bt132.2.1 bt132.2.2.1).bind fun t137 => (if t137 = 0 then (if bt132.1 > (mn t128 t129) then (chancerykeep3_ScaleContainsValues.j1 kj5 t131 true bt132.1 bt132.2.1 bt132.2.2.1) else (if bt132.2.1 < (mx t128 t129) then (chancerykeep3_ScaleContainsValues.j1 kj5 t131 true bt132.1 bt132.2.1 bt132.2.2.1) else (if bt132.1 ≤ (wrap64 ((mn t128 t129) - bt132.2.2.1)) then (chancerykeep3_ScaleContainsValues.j1 kj5 t131 true bt132.1 bt132.2.1 bt132.2.2.1) else (if bt132.2.1 > (wrap64 ((mx t128 t129) + bt132.2.2.1)) then (chancerykeep3_ScaleContainsValues.j1 kj5 t131 true bt132.1 bt132.2.1 bt132.2.2.1) else (if bt132.2.2.1 = 0 then (none) else (chancerykeep3_ScaleContainsValues.j1 kj5 t131 (decide ((wrap64 (Int.tdiv (wrap64 (bt132.2.1 - bt132.1)) bt132.2.2.1)) > t130)) bt132.1 bt132.2.1 bt132.2.2.1)))))) else (chancerykeep3_ScaleContainsValues.j1 kj5 t131 true bt132.1 bt132.2.1 bt132.2.2.1))) else (chancerykeep3_ScaleContainsValues.j1 kj5 t131 true bt132.1 bt132.2.1 bt132.2.2.1))))))) = some r := by rw [if_neg (show ¬ (false = true) by decide)] at H; exact H
        clear H
        have H := H1
        clear H1
        replace H := Option.bind_eq_some_iff.mp H
        obtain ⟨t128, A150, H⟩ := H
        replace H : ((chancerykeep3_within.f a1 (-1000000000000) 1000000000000).bind fun t129 => ((chancerykeep3_within.f a2 2 50).bind fun t130 => ((chancerykeep3_within.f a3 0 100000).bind fun t131 => ((scale_Find.f kj5 (mn t128 t129) (mx t128 t129) t130).bind fun bt132 => (if bt132.2.2.2 = 0 then ((scale_Check.f kj5 bt132.1 bt132.2.1 bt132.2.2.1).bind fun t137 => (if t137 = 0 then (if bt132.1 > (mn t128 t129) then (chancerykeep3_ScaleContainsValues.j1 kj5 t131 true bt132.1 bt132.2.1 bt132.2.2.1) else (if bt132.2.1 < (mx t128 t129) then (chancerykeep3_ScaleContainsValues.j1 kj5 t131 true bt132.1 bt132.2.1 bt132.2.2.1) else (if bt132.1 ≤ (wrap64 ((mn t128 t129) - bt132.2.2.1)) then (chancerykeep3_ScaleContainsValues.j1 kj5 t131 true bt132.1 bt132.2.1 bt132.2.2.1) else (if bt132.2.1 > (wrap64 ((mx t128 t129) + bt132.2.2.1)) then (chancerykeep3_ScaleContainsValues.j1 kj5 t131 true bt132.1 bt132.2.1 bt132.2.2.1) else (if bt132.2.2.1 = 0 then (none) else (chancerykeep3_ScaleContainsValues.j1 kj5 t131 (decide ((wrap64 (Int.tdiv (wrap64 (bt132.2.1 - bt132.1)) bt132.2.2.1)) > t130)) bt132.1 bt132.2.1 bt132.2.2.1)))))) else (chancerykeep3_ScaleContainsValues.j1 kj5 t131 true bt132.1 bt132.2.1 bt132.2.2.1))) else (chancerykeep3_ScaleContainsValues.j1 kj5 t131 true bt132.1 bt132.2.1 bt132.2.2.1)))))) = some r := H
        have A15 := Aside0.mk A150
        clear A150
        replace H := Option.bind_eq_some_iff.mp H
        obtain ⟨t129, A160, H⟩ := H
        replace H : ((chancerykeep3_within.f a2 2 50).bind fun t130 => ((chancerykeep3_within.f a3 0 100000).bind fun t131 => ((scale_Find.f kj5 (mn t128 t129) (mx t128 t129) t130).bind fun bt132 => (if bt132.2.2.2 = 0 then ((scale_Check.f kj5 bt132.1 bt132.2.1 bt132.2.2.1).bind fun t137 => (if t137 = 0 then (if bt132.1 > (mn t128 t129) then (chancerykeep3_ScaleContainsValues.j1 kj5 t131 true bt132.1 bt132.2.1 bt132.2.2.1) else (if bt132.2.1 < (mx t128 t129) then (chancerykeep3_ScaleContainsValues.j1 kj5 t131 true bt132.1 bt132.2.1 bt132.2.2.1) else (if bt132.1 ≤ (wrap64 ((mn t128 t129) - bt132.2.2.1)) then (chancerykeep3_ScaleContainsValues.j1 kj5 t131 true bt132.1 bt132.2.1 bt132.2.2.1) else (if bt132.2.1 > (wrap64 ((mx t128 t129) + bt132.2.2.1)) then (chancerykeep3_ScaleContainsValues.j1 kj5 t131 true bt132.1 bt132.2.1 bt132.2.2.1) else (if bt132.2.2.1 = 0 then (none) else (chancerykeep3_ScaleContainsValues.j1 kj5 t131 (decide ((wrap64 (Int.tdiv (wrap64 (bt132.2.1 - bt132.1)) bt132.2.2.1)) > t130)) bt132.1 bt132.2.1 bt132.2.2.1)))))) else (chancerykeep3_ScaleContainsValues.j1 kj5 t131 true bt132.1 bt132.2.1 bt132.2.2.1))) else (chancerykeep3_ScaleContainsValues.j1 kj5 t131 true bt132.1 bt132.2.1 bt132.2.2.1))))) = some r := H
        have A16 := Aside0.mk A160
        clear A160
        obtain ⟨ji17, hji17⟩ : ∃ j_ : Int, (mn t128 t129) = j_ := ⟨_, rfl⟩
        replace H : ((chancerykeep3_within.f a2 2 50).bind fun t130 => ((chancerykeep3_within.f a3 0 100000).bind fun t131 => ((scale_Find.f kj5 (ji17) (mx t128 t129) t130).bind fun bt132 => (if bt132.2.2.2 = 0 then ((scale_Check.f kj5 bt132.1 bt132.2.1 bt132.2.2.1).bind fun t137 => (if t137 = 0 then (if bt132.1 > (ji17) then (chancerykeep3_ScaleContainsValues.j1 kj5 t131 true bt132.1 bt132.2.1 bt132.2.2.1) else (if bt132.2.1 < (mx t128 t129) then (chancerykeep3_ScaleContainsValues.j1 kj5 t131 true bt132.1 bt132.2.1 bt132.2.2.1) else (if bt132.1 ≤ (wrap64 ((ji17) - bt132.2.2.1)) then (chancerykeep3_ScaleContainsValues.j1 kj5 t131 true bt132.1 bt132.2.1 bt132.2.2.1) else (if bt132.2.1 > (wrap64 ((mx t128 t129) + bt132.2.2.1)) then (chancerykeep3_ScaleContainsValues.j1 kj5 t131 true bt132.1 bt132.2.1 bt132.2.2.1) else (if bt132.2.2.1 = 0 then (none) else (chancerykeep3_ScaleContainsValues.j1 kj5 t131 (decide ((wrap64 (Int.tdiv (wrap64 (bt132.2.1 - bt132.1)) bt132.2.2.1)) > t130)) bt132.1 bt132.2.1 bt132.2.2.1)))))) else (chancerykeep3_ScaleContainsValues.j1 kj5 t131 true bt132.1 bt132.2.1 bt132.2.2.1))) else (chancerykeep3_ScaleContainsValues.j1 kj5 t131 true bt132.1 bt132.2.1 bt132.2.2.1))))) = some r := by first | (rw [hji17] at H; exact H) | (simp only [hji17] at H ⊢; exact H)
        (try rw [hji17] at A15)
        (try rw [hji17] at A16)
        have hji17_ : (if t129 < t128 then t129 else t128) = ji17 := hji17
        obtain ⟨ji18, hji18⟩ : ∃ j_ : Int, (mx t128 t129) = j_ := ⟨_, rfl⟩
        replace H : ((chancerykeep3_within.f a2 2 50).bind fun t130 => ((chancerykeep3_within.f a3 0 100000).bind fun t131 => ((scale_Find.f kj5 (ji17) (ji18) t130).bind fun bt132 => (if bt132.2.2.2 = 0 then ((scale_Check.f kj5 bt132.1 bt132.2.1 bt132.2.2.1).bind fun t137 => (if t137 = 0 then (if bt132.1 > (ji17) then (chancerykeep3_ScaleContainsValues.j1 kj5 t131 true bt132.1 bt132.2.1 bt132.2.2.1) else (if bt132.2.1 < (ji18) then (chancerykeep3_ScaleContainsValues.j1 kj5 t131 true bt132.1 bt132.2.1 bt132.2.2.1) else (if bt132.1 ≤ (wrap64 ((ji17) - bt132.2.2.1)) then (chancerykeep3_ScaleContainsValues.j1 kj5 t131 true bt132.1 bt132.2.1 bt132.2.2.1) else (if bt132.2.1 > (wrap64 ((ji18) + bt132.2.2.1)) then (chancerykeep3_ScaleContainsValues.j1 kj5 t131 true bt132.1 bt132.2.1 bt132.2.2.1) else (if bt132.2.2.1 = 0 then (none) else (chancerykeep3_ScaleContainsValues.j1 kj5 t131 (decide ((wrap64 (Int.tdiv (wrap64 (bt132.2.1 - bt132.1)) bt132.2.2.1)) > t130)) bt132.1 bt132.2.1 bt132.2.2.1)))))) else (chancerykeep3_ScaleContainsValues.j1 kj5 t131 true bt132.1 bt132.2.1 bt132.2.2.1))) else (chancerykeep3_ScaleContainsValues.j1 kj5 t131 true bt132.1 bt132.2.1 bt132.2.2.1))))) = some r := by first | (rw [hji18] at H; exact H) | (simp only [hji18] at H ⊢; exact H)
        (try rw [hji18] at A15)
        (try rw [hji18] at A16)
        have hji18_ : (if t128 < t129 then t129 else t128) = ji18 := hji18
        replace H := Option.bind_eq_some_iff.mp H
        obtain ⟨t130, A190, H⟩ := H
        replace H : ((chancerykeep3_within.f a3 0 100000).bind fun t131 => ((scale_Find.f kj5 (ji17) (ji18) t130).bind fun bt132 => (if bt132.2.2.2 = 0 then ((scale_Check.f kj5 bt132.1 bt132.2.1 bt132.2.2.1).bind fun t137 => (if t137 = 0 then (if bt132.1 > (ji17) then (chancerykeep3_ScaleContainsValues.j1 kj5 t131 true bt132.1 bt132.2.1 bt132.2.2.1) else (if bt132.2.1 < (ji18) then (chancerykeep3_ScaleContainsValues.j1 kj5 t131 true bt132.1 bt132.2.1 bt132.2.2.1) else (if bt132.1 ≤ (wrap64 ((ji17) - bt132.2.2.1)) then (chancerykeep3_ScaleContainsValues.j1 kj5 t131 true bt132.1 bt132.2.1 bt132.2.2.1) else (if bt132.2.1 > (wrap64 ((ji18) + bt132.2.2.1)) then (chancerykeep3_ScaleContainsValues.j1 kj5 t131 true bt132.1 bt132.2.1 bt132.2.2.1) else (if bt132.2.2.1 = 0 then (none) else (chancerykeep3_ScaleContainsValues.j1 kj5 t131 (decide ((wrap64 (Int.tdiv (wrap64 (bt132.2.1 - bt132.1)) bt132.2.2.1)) > t130)) bt132.1 bt132.2.1 bt132.2.2.1)))))) else (chancerykeep3_ScaleContainsValues.j1 kj5 t131 true bt132.1 bt132.2.1 bt132.2.2.1))) else (chancerykeep3_ScaleContainsValues.j1 kj5 t131 true bt132.1 bt132.2.1 bt132.2.2.1)))) = some r := H
        have A19 := Aside0.mk A190
        clear A190
        replace H := Option.bind_eq_some_iff.mp H
        obtain ⟨t131, A200, H⟩ := H
        replace H : ((scale_Find.f kj5 (ji17) (ji18) t130).bind fun bt132 => (if bt132.2.2.2 = 0 then ((scale_Check.f kj5 bt132.1 bt132.2.1 bt132.2.2.1).bind fun t137 => (if t137 = 0 then (if bt132.1 > (ji17) then (chancerykeep3_ScaleContainsValues.j1 kj5 t131 true bt132.1 bt132.2.1 bt132.2.2.1) else (if bt132.2.1 < (ji18) then (chancerykeep3_ScaleContainsValues.j1 kj5 t131 true bt132.1 bt132.2.1 bt132.2.2.1) else (if bt132.1 ≤ (wrap64 ((ji17) - bt132.2.2.1)) then (chancerykeep3_ScaleContainsValues.j1 kj5 t131 true bt132.1 bt132.2.1 bt132.2.2.1) else (if bt132.2.1 > (wrap64 ((ji18) + bt132.2.2.1)) then (chancerykeep3_ScaleContainsValues.j1 kj5 t131 true bt132.1 bt132.2.1 bt132.2.2.1) else (if bt132.2.2.1 = 0 then (none) else (chancerykeep3_ScaleContainsValues.j1 kj5 t131 (decide ((wrap64 (Int.tdiv (wrap64 (bt132.2.1 - bt132.1)) bt132.2.2.1)) > t130)) bt132.1 bt132.2.1 bt132.2.2.1)))))) else (chancerykeep3_ScaleContainsValues.j1 kj5 t131 true bt132.1 bt132.2.1 bt132.2.2.1))) else (chancerykeep3_ScaleContainsValues.j1 kj5 t131 true bt132.1 bt132.2.1 bt132.2.2.1))) = some r := H
        have A20 := Aside0.mk A200
        clear A200
        replace H := Option.bind_eq_some_iff.mp H
        obtain ⟨⟨t132, t133, t134, t135⟩, A210, H⟩ := H
        replace H : (if t135 = 0 then ((scale_Check.f kj5 t132 t133 t134).bind fun t137 => (if t137 = 0 then (if t132 > (ji17) then (chancerykeep3_ScaleContainsValues.j1 kj5 t131 true t132 t133 t134) else (if t133 < (ji18) then (chancerykeep3_ScaleContainsValues.j1 kj5 t131 true t132 t133 t134) else (if t132 ≤ (wrap64 ((ji17) - t134)) then (chancerykeep3_ScaleContainsValues.j1 kj5 t131 true t132 t133 t134) else (if t133 > (wrap64 ((ji18) + t134)) then (chancerykeep3_ScaleContainsValues.j1 kj5 t131 true t132 t133 t134) else (if t134 = 0 then (none) else (chancerykeep3_ScaleContainsValues.j1 kj5 t131 (decide ((wrap64 (Int.tdiv (wrap64 (t133 - t132)) t134)) > t130)) t132 t133 t134)))))) else (chancerykeep3_ScaleContainsValues.j1 kj5 t131 true t132 t133 t134))) else (chancerykeep3_ScaleContainsValues.j1 kj5 t131 true t132 t133 t134)) = some r := H
        have A21 := Aside0.mk A210
        clear A210
        have HC22 := Aside0.mk H
        clear H
        go_upto_region 8 with (first | ((with_reducible refine gate_callee (f := 13) rfl ?_); refine goesL_ (some 34) rfl rfl Try.func13 (by kernel_rfl) rfl #[.int .i64 a0, .int .i64 (-1000000000000), .int .i64 1000000000000] rfl (by (try simp only [List.map_toArray, List.map_cons, List.map_nil]); first | done | rfl | (simp only [List.length_drop, List.length_take]; rfl)) ?_; (with_reducible refine (chancerykeep3_within.calls a0 (-1000000000000) 1000000000000 t128 _ A15.out).mono ?_); rintro e w' ⟨rfl, ⟨nd, rfl⟩⟩; refine ⟨_, rfl, ?_⟩; (try (rw [drewN_self wc]; generalize hq_ : World.drewN wc _ = wc; have n0_ : Aside0 (Below w.heap.size w wc) := ⟨by rw [← hq_]; exact (by repeat (first | (with_reducible first | exact HB.out | apply below_alloc | apply pw_below_drewN | apply below_drew1) | exact HB.out))⟩; clear HB hq_; have HB := n0_; clear n0_))) | ((with_reducible refine gate_callee (f := 13) rfl ?_); refine goesL_ (some 36) rfl rfl Try.func13 (by kernel_rfl) rfl #[.int .i64 a1, .int .i64 (-1000000000000), .int .i64 1000000000000] rfl (by (try simp only [List.map_toArray, List.map_cons, List.map_nil]); first | done | rfl | (simp only [List.length_drop, List.length_take]; rfl)) ?_; (with_reducible refine (chancerykeep3_within.calls a1 (-1000000000000) 1000000000000 t129 _ A16.out).mono ?_); rintro e w' ⟨rfl, ⟨nd, rfl⟩⟩; refine ⟨_, rfl, ?_⟩; (try (rw [drewN_self wc]; generalize hq_ : World.drewN wc _ = wc; have n0_ : Aside0 (Below w.heap.size w wc) := ⟨by rw [← hq_]; exact (by repeat (first | (with_reducible first | exact HB.out | apply below_alloc | apply pw_below_drewN | apply below_drew1) | exact HB.out))⟩; clear HB hq_; have HB := n0_; clear n0_))) | ((with_reducible refine gate_callee (f := 13) rfl ?_); refine goesL_ (some 44) rfl rfl Try.func13 (by kernel_rfl) rfl #[.int .i64 a2, .int .i64 2, .int .i64 50] rfl (by (try simp only [List.map_toArray, List.map_cons, List.map_nil]); first | done | rfl | (simp only [List.length_drop, List.length_take]; rfl)) ?_; (with_reducible refine (chancerykeep3_within.calls a2 2 50 t130 _ A19.out).mono ?_); rintro e w' ⟨rfl, ⟨nd, rfl⟩⟩; refine ⟨_, rfl, ?_⟩; (try (rw [drewN_self wc]; generalize hq_ : World.drewN wc _ = wc; have n0_ : Aside0 (Below w.heap.size w wc) := ⟨by rw [← hq_]; exact (by repeat (first | (with_reducible first | exact HB.out | apply below_alloc | apply pw_below_drewN | apply below_drew1) | exact HB.out))⟩; clear HB hq_; have HB := n0_; clear n0_))) | ((with_reducible refine gate_callee (f := 13) rfl ?_); refine goesL_ (some 46) rfl rfl Try.func13 (by kernel_rfl) rfl #[.int .i64 a3, .int .i64 0, .int .i64 100000] rfl (by (try simp only [List.map_toArray, List.map_cons, List.map_nil]); first | done | rfl | (simp only [List.length_drop, List.length_take]; rfl)) ?_; (with_reducible refine (chancerykeep3_within.calls a3 0 100000 t131 _ A20.out).mono ?_); rintro e w' ⟨rfl, ⟨nd, rfl⟩⟩; refine ⟨_, rfl, ?_⟩; (try (rw [drewN_self wc]; generalize hq_ : World.drewN wc _ = wc; have n0_ : Aside0 (Below w.heap.size w wc) := ⟨by rw [← hq_]; exact (by repeat (first | (with_reducible first | exact HB.out | apply below_alloc | apply pw_below_drewN | apply below_drew1) | exact HB.out))⟩; clear HB hq_; have HB := n0_; clear n0_))) | ((with_reducible refine gate_callee (f := 17) rfl ?_); refine goesL_ (some 51) rfl rfl Try.func17 (by kernel_rfl) rfl #[.int .i64 ji17, .int .i64 ji18, .int .i64 t130] rfl (by (try simp only [List.map_toArray, List.map_cons, List.map_nil]); first | done | (simp only [hji17, hji18]; rfl) | rfl | (simp only [List.length_drop, List.length_take]; rfl)) ?_; (with_reducible refine (scale_Find.calls kj5 ji17 ji18 t130 t132 t133 t134 t135 _ A21.out).mono ?_); rintro e w23 ⟨rfl, hb⟩; refine ⟨_, rfl, ?_⟩; have n0_ := Aside0.mk (below_step (by repeat (first | (with_reducible first | exact HB.out | apply below_alloc | apply pw_below_drewN | apply below_drew1) | exact HB.out)) hb); clear HB; have HB := n0_; clear n0_; (try clear hb); (try clear hb2); (try clear hk); (try clear hi)) | ((with_reducible refine gate_dst (N := 11) rfl ?_); (try (refine gate_guard (by rfl) ?_; dsimp only)); refine box_event ?hg (N := 11) ?hd (cs := #[.int .i64 0, .int .i64 0, .int .i64 0]) (t := 41) ?hr ?_; (case hd => rfl); (case hg => rfl); (case hr => first | (go_simp; done) | (go_simp; rfl)); intro gb136 hg w24 hbox hb; have n0_ := Aside0.mk (below_step (by repeat (first | (with_reducible first | exact HB.out | apply below_alloc | apply pw_below_drewN | apply below_drew1) | exact HB.out)) hb); have n1_ := Aside0.mk (hbox); have n2_ := Aside0.mk ((by rw [hg]; exact (below_size (by repeat (first | (with_reducible first | exact HB.out | apply below_alloc | apply pw_below_drewN | apply below_drew1) | exact HB.out))) : w.heap.size ≤ gb136)); have n3_ := Aside0.mk ((by rw [hg]; exact (below_size (by repeat (first | (with_reducible first | exact HB.out | apply below_alloc | apply pw_below_drewN | apply below_drew1) | exact HB.out))) : w.heap.size ≤ gb136)); clear HB; have HB := n0_; have BK136 := n1_; have GW136 := n2_; have GE136 := n3_; clear n0_ n1_ n2_ n3_; clear hb hbox hg; have hcz25_0 : w24.cell? ⟨gb136, 0, none⟩ = some (.int .i64 0) := (blk_cell BK136.out 0).trans rfl; have hcz25_1 : w24.cell? ⟨gb136, 1, none⟩ = some (.int .i64 0) := (blk_cell BK136.out 1).trans rfl; have hcz25_2 : w24.cell? ⟨gb136, 2, none⟩ = some (.int .i64 0) := (blk_cell BK136.out 2).trans rfl; have hfz25_0 := blk_frozen BK136.out 0; have hfz25_1 := blk_frozen BK136.out 1; have hfz25_2 := blk_frozen BK136.out 2))
        (try simp only [Act.put, List.setIfInBounds_toArray, List.set_cons_zero, List.set_cons_succ])
        go_cut [102] (fun v102 wc => ∃ (kq : Nat) (x102_21 : Bool), v102 = .bool x102_21 ∧ Aside0 (chancerykeep3_ScaleContainsValues.j1 kq t131 x102_21 t132 t133 t134 = some r) ∧ Aside0 (kq ≤ kj5) ∧ Aside0 (wc.heap[gb136]? = some (.cells #[.int .i64 t132, .int .i64 t133, .int .i64 t134] 41 (0, 0))) ∧ Aside0 (Below w.heap.size w wc))
        case first =>
          have H := HC22.out
          clear HC22
          by_cases c26 : t135 = 0
          · rw [if_pos c26] at H
            have c26b0 : (t135 == 0) = true := beq_iff_eq.mpr c26
            have c26b1 : (t135 != 0) = false := bne_eq_false_iff_eq.mpr c26
            clear c26
            (first | rw [c26b0] | (simp only [i64_w, i32_w]; rw [c26b0]) | skip)
            replace H := Option.bind_eq_some_iff.mp H
            obtain ⟨t137, A270, H⟩ := H
            replace H : (if t137 = 0 then (if t132 > (ji17) then (chancerykeep3_ScaleContainsValues.j1 kj5 t131 true t132 t133 t134) else (if t133 < (ji18) then (chancerykeep3_ScaleContainsValues.j1 kj5 t131 true t132 t133 t134) else (if t132 ≤ (wrap64 ((ji17) - t134)) then (chancerykeep3_ScaleContainsValues.j1 kj5 t131 true t132 t133 t134) else (if t133 > (wrap64 ((ji18) + t134)) then (chancerykeep3_ScaleContainsValues.j1 kj5 t131 true t132 t133 t134) else (if t134 = 0 then (none) else (chancerykeep3_ScaleContainsValues.j1 kj5 t131 (decide ((wrap64 (Int.tdiv (wrap64 (t133 - t132)) t134)) > t130)) t132 t133 t134)))))) else (chancerykeep3_ScaleContainsValues.j1 kj5 t131 true t132 t133 t134)) = some r := H
            have A27 := Aside0.mk A270
            clear A270
            by_cases c28 : t137 = 0
            · rw [if_pos c28] at H
              have c28b0 : (t137 == 0) = true := beq_iff_eq.mpr c28
              have c28b1 : (t137 != 0) = false := bne_eq_false_iff_eq.mpr c28
              clear c28
              by_cases c29 : t132 > (ji17)
              · rw [if_pos c29] at H
                have c29b0 : decide ((ji17) < t132) = true := decide_eq_true c29
                clear c29
                have H' := Aside0.mk H
                clear H
                have hcz30_0 : w24.cell? ⟨gb136, 0, none⟩ = some (.int .i64 0) := (blk_cell BK136.out 0).trans rfl
                have hcz30_1 : w24.cell? ⟨gb136, 1, none⟩ = some (.int .i64 0) := (blk_cell BK136.out 1).trans rfl
                have hcz30_2 : w24.cell? ⟨gb136, 2, none⟩ = some (.int .i64 0) := (blk_cell BK136.out 2).trans rfl
                have hfz30_0 := blk_frozen BK136.out 0
                have hfz30_1 := blk_frozen BK136.out 1
                have hfz30_2 := blk_frozen BK136.out 2
                go_wp2_with (first | (go_at_call 18; (with_reducible refine (scale_Check.calls kj5 t132 t133 t134 t137 _ A27.out).mono ?_); rintro e w31 ⟨rfl, hb⟩; have n0_ := Aside0.mk (blk_below (g := gb136) (o := .cells #[.int .i64 t132, .int .i64 t133, .int .i64 t134] 41 (0, 0)) (by (with_reducible repeat (first | refine blk_drewN ?_ _ | refine blk_drew ?_ | refine blk_alloc ?_ _)); refine blk_put (cs := #[.int .i64 t132, .int .i64 t133, .int .i64 0]) ?_ 2 _ rfl; (with_reducible repeat (first | refine blk_drewN ?_ _ | refine blk_drew ?_ | refine blk_alloc ?_ _)); refine blk_put (cs := #[.int .i64 t132, .int .i64 0, .int .i64 0]) ?_ 1 _ rfl; (with_reducible repeat (first | refine blk_drewN ?_ _ | refine blk_drew ?_ | refine blk_alloc ?_ _)); refine blk_put (cs := #[.int .i64 0, .int .i64 0, .int .i64 0]) ?_ 0 _ rfl; (with_reducible repeat (first | refine blk_drewN ?_ _ | refine blk_drew ?_ | refine blk_alloc ?_ _)); exact BK136.out) hb); have n1_ := Aside0.mk (below_step (by repeat (first | (with_reducible first | exact HB.out | apply below_alloc | apply pw_below_drewN | apply below_drew1 | refine below_set ?_ GE136.out) | exact HB.out)) hb); clear BK136; clear HB; have BK136 := n0_; have HB := n1_; clear n0_ n1_; (try clear hb); (try clear hb2); (try clear hk); (try clear hi); have hcz32_0 : w31.cell? ⟨gb136, 0, none⟩ = some (.int .i64 t132) := (blk_cell BK136.out 0).trans rfl; have hcz32_1 : w31.cell? ⟨gb136, 1, none⟩ = some (.int .i64 t133) := (blk_cell BK136.out 1).trans rfl; have hcz32_2 : w31.cell? ⟨gb136, 2, none⟩ = some (.int .i64 t134) := (blk_cell BK136.out 2).trans rfl; have hfz32_0 := blk_frozen BK136.out 0; have hfz32_1 := blk_frozen BK136.out 1; have hfz32_2 := blk_frozen BK136.out 2))
                go_meet
                case rel => exact ⟨_, (true), (by first | rfl | (simp; done) | (simp [*]; done)), H', ⟨by have := HJ5.out; first | omega | exact Nat.le_refl _⟩, ⟨by (with_reducible repeat (first | refine blk_drewN ?_ _ | refine blk_drew ?_ | refine blk_alloc ?_ _)); exact BK136.out⟩, ⟨by repeat (first | (with_reducible first | exact HB.out | apply below_alloc | apply pw_below_drewN | apply below_drew1 | refine below_set ?_ GE136.out) | exact HB.out)⟩⟩
              · rw [if_neg c29] at H
                have c29b0 : decide ((ji17) < t132) = false := decide_eq_false c29
                clear c29
                by_cases c33 : t133 < (ji18)
                · rw [if_pos c33] at H
                  have c33b0 : decide (t133 < (ji18)) = true := decide_eq_true c33
                  clear c33
                  have H' := Aside0.mk H
                  clear H
                  have hcz34_0 : w24.cell? ⟨gb136, 0, none⟩ = some (.int .i64 0) := (blk_cell BK136.out 0).trans rfl
                  have hcz34_1 : w24.cell? ⟨gb136, 1, none⟩ = some (.int .i64 0) := (blk_cell BK136.out 1).trans rfl
                  have hcz34_2 : w24.cell? ⟨gb136, 2, none⟩ = some (.int .i64 0) := (blk_cell BK136.out 2).trans rfl
                  have hfz34_0 := blk_frozen BK136.out 0
                  have hfz34_1 := blk_frozen BK136.out 1
                  have hfz34_2 := blk_frozen BK136.out 2
                  go_wp2_with (first | (go_at_call 18; (with_reducible refine (scale_Check.calls kj5 t132 t133 t134 t137 _ A27.out).mono ?_); rintro e w35 ⟨rfl, hb⟩; have n0_ := Aside0.mk (blk_below (g := gb136) (o := .cells #[.int .i64 t132, .int .i64 t133, .int .i64 t134] 41 (0, 0)) (by (with_reducible repeat (first | refine blk_drewN ?_ _ | refine blk_drew ?_ | refine blk_alloc ?_ _)); refine blk_put (cs := #[.int .i64 t132, .int .i64 t133, .int .i64 0]) ?_ 2 _ rfl; (with_reducible repeat (first | refine blk_drewN ?_ _ | refine blk_drew ?_ | refine blk_alloc ?_ _)); refine blk_put (cs := #[.int .i64 t132, .int .i64 0, .int .i64 0]) ?_ 1 _ rfl; (with_reducible repeat (first | refine blk_drewN ?_ _ | refine blk_drew ?_ | refine blk_alloc ?_ _)); refine blk_put (cs := #[.int .i64 0, .int .i64 0, .int .i64 0]) ?_ 0 _ rfl; (with_reducible repeat (first | refine blk_drewN ?_ _ | refine blk_drew ?_ | refine blk_alloc ?_ _)); exact BK136.out) hb); have n1_ := Aside0.mk (below_step (by repeat (first | (with_reducible first | exact HB.out | apply below_alloc | apply pw_below_drewN | apply below_drew1 | refine below_set ?_ GE136.out) | exact HB.out)) hb); clear BK136; clear HB; have BK136 := n0_; have HB := n1_; clear n0_ n1_; (try clear hb); (try clear hb2); (try clear hk); (try clear hi); have hcz36_0 : w35.cell? ⟨gb136, 0, none⟩ = some (.int .i64 t132) := (blk_cell BK136.out 0).trans rfl; have hcz36_1 : w35.cell? ⟨gb136, 1, none⟩ = some (.int .i64 t133) := (blk_cell BK136.out 1).trans rfl; have hcz36_2 : w35.cell? ⟨gb136, 2, none⟩ = some (.int .i64 t134) := (blk_cell BK136.out 2).trans rfl; have hfz36_0 := blk_frozen BK136.out 0; have hfz36_1 := blk_frozen BK136.out 1; have hfz36_2 := blk_frozen BK136.out 2))
                  go_meet
                  case rel => exact ⟨_, (true), (by first | rfl | (simp; done) | (simp [*]; done)), H', ⟨by have := HJ5.out; first | omega | exact Nat.le_refl _⟩, ⟨by (with_reducible repeat (first | refine blk_drewN ?_ _ | refine blk_drew ?_ | refine blk_alloc ?_ _)); exact BK136.out⟩, ⟨by repeat (first | (with_reducible first | exact HB.out | apply below_alloc | apply pw_below_drewN | apply below_drew1 | refine below_set ?_ GE136.out) | exact HB.out)⟩⟩
                · rw [if_neg c33] at H
                  have c33b0 : decide (t133 < (ji18)) = false := decide_eq_false c33
                  clear c33
                  by_cases c37 : t132 ≤ (wrap64 ((ji17) - t134))
                  · rw [if_pos c37] at H
                    have c37b0 : decide (t132 ≤ (wrap64 ((ji17) - t134))) = true := decide_eq_true c37
                    clear c37
                    have H' := Aside0.mk H
                    clear H
                    have hcz38_0 : w24.cell? ⟨gb136, 0, none⟩ = some (.int .i64 0) := (blk_cell BK136.out 0).trans rfl
                    have hcz38_1 : w24.cell? ⟨gb136, 1, none⟩ = some (.int .i64 0) := (blk_cell BK136.out 1).trans rfl
                    have hcz38_2 : w24.cell? ⟨gb136, 2, none⟩ = some (.int .i64 0) := (blk_cell BK136.out 2).trans rfl
                    have hfz38_0 := blk_frozen BK136.out 0
                    have hfz38_1 := blk_frozen BK136.out 1
                    have hfz38_2 := blk_frozen BK136.out 2
                    go_wp2_with (first | (go_at_call 18; (with_reducible refine (scale_Check.calls kj5 t132 t133 t134 t137 _ A27.out).mono ?_); rintro e w39 ⟨rfl, hb⟩; have n0_ := Aside0.mk (blk_below (g := gb136) (o := .cells #[.int .i64 t132, .int .i64 t133, .int .i64 t134] 41 (0, 0)) (by (with_reducible repeat (first | refine blk_drewN ?_ _ | refine blk_drew ?_ | refine blk_alloc ?_ _)); refine blk_put (cs := #[.int .i64 t132, .int .i64 t133, .int .i64 0]) ?_ 2 _ rfl; (with_reducible repeat (first | refine blk_drewN ?_ _ | refine blk_drew ?_ | refine blk_alloc ?_ _)); refine blk_put (cs := #[.int .i64 t132, .int .i64 0, .int .i64 0]) ?_ 1 _ rfl; (with_reducible repeat (first | refine blk_drewN ?_ _ | refine blk_drew ?_ | refine blk_alloc ?_ _)); refine blk_put (cs := #[.int .i64 0, .int .i64 0, .int .i64 0]) ?_ 0 _ rfl; (with_reducible repeat (first | refine blk_drewN ?_ _ | refine blk_drew ?_ | refine blk_alloc ?_ _)); exact BK136.out) hb); have n1_ := Aside0.mk (below_step (by repeat (first | (with_reducible first | exact HB.out | apply below_alloc | apply pw_below_drewN | apply below_drew1 | refine below_set ?_ GE136.out) | exact HB.out)) hb); clear BK136; clear HB; have BK136 := n0_; have HB := n1_; clear n0_ n1_; (try clear hb); (try clear hb2); (try clear hk); (try clear hi); have hcz40_0 : w39.cell? ⟨gb136, 0, none⟩ = some (.int .i64 t132) := (blk_cell BK136.out 0).trans rfl; have hcz40_1 : w39.cell? ⟨gb136, 1, none⟩ = some (.int .i64 t133) := (blk_cell BK136.out 1).trans rfl; have hcz40_2 : w39.cell? ⟨gb136, 2, none⟩ = some (.int .i64 t134) := (blk_cell BK136.out 2).trans rfl; have hfz40_0 := blk_frozen BK136.out 0; have hfz40_1 := blk_frozen BK136.out 1; have hfz40_2 := blk_frozen BK136.out 2))
                    go_meet
                    case rel => exact ⟨_, (true), (by first | rfl | (simp; done) | (simp [*]; done)), H', ⟨by have := HJ5.out; first | omega | exact Nat.le_refl _⟩, ⟨by (with_reducible repeat (first | refine blk_drewN ?_ _ | refine blk_drew ?_ | refine blk_alloc ?_ _)); exact BK136.out⟩, ⟨by repeat (first | (with_reducible first | exact HB.out | apply below_alloc | apply pw_below_drewN | apply below_drew1 | refine below_set ?_ GE136.out) | exact HB.out)⟩⟩
                  · rw [if_neg c37] at H
                    have c37b0 : decide (t132 ≤ (wrap64 ((ji17) - t134))) = false := decide_eq_false c37
                    clear c37
                    by_cases c41 : t133 > (wrap64 ((ji18) + t134))
                    · rw [if_pos c41] at H
                      have c41b0 : decide ((wrap64 ((ji18) + t134)) < t133) = true := decide_eq_true c41
                      clear c41
                      have H' := Aside0.mk H
                      clear H
                      have hcz42_0 : w24.cell? ⟨gb136, 0, none⟩ = some (.int .i64 0) := (blk_cell BK136.out 0).trans rfl
                      have hcz42_1 : w24.cell? ⟨gb136, 1, none⟩ = some (.int .i64 0) := (blk_cell BK136.out 1).trans rfl
                      have hcz42_2 : w24.cell? ⟨gb136, 2, none⟩ = some (.int .i64 0) := (blk_cell BK136.out 2).trans rfl
                      have hfz42_0 := blk_frozen BK136.out 0
                      have hfz42_1 := blk_frozen BK136.out 1
                      have hfz42_2 := blk_frozen BK136.out 2
                      go_wp2_with (first | (go_at_call 18; (with_reducible refine (scale_Check.calls kj5 t132 t133 t134 t137 _ A27.out).mono ?_); rintro e w43 ⟨rfl, hb⟩; have n0_ := Aside0.mk (blk_below (g := gb136) (o := .cells #[.int .i64 t132, .int .i64 t133, .int .i64 t134] 41 (0, 0)) (by (with_reducible repeat (first | refine blk_drewN ?_ _ | refine blk_drew ?_ | refine blk_alloc ?_ _)); refine blk_put (cs := #[.int .i64 t132, .int .i64 t133, .int .i64 0]) ?_ 2 _ rfl; (with_reducible repeat (first | refine blk_drewN ?_ _ | refine blk_drew ?_ | refine blk_alloc ?_ _)); refine blk_put (cs := #[.int .i64 t132, .int .i64 0, .int .i64 0]) ?_ 1 _ rfl; (with_reducible repeat (first | refine blk_drewN ?_ _ | refine blk_drew ?_ | refine blk_alloc ?_ _)); refine blk_put (cs := #[.int .i64 0, .int .i64 0, .int .i64 0]) ?_ 0 _ rfl; (with_reducible repeat (first | refine blk_drewN ?_ _ | refine blk_drew ?_ | refine blk_alloc ?_ _)); exact BK136.out) hb); have n1_ := Aside0.mk (below_step (by repeat (first | (with_reducible first | exact HB.out | apply below_alloc | apply pw_below_drewN | apply below_drew1 | refine below_set ?_ GE136.out) | exact HB.out)) hb); clear BK136; clear HB; have BK136 := n0_; have HB := n1_; clear n0_ n1_; (try clear hb); (try clear hb2); (try clear hk); (try clear hi); have hcz44_0 : w43.cell? ⟨gb136, 0, none⟩ = some (.int .i64 t132) := (blk_cell BK136.out 0).trans rfl; have hcz44_1 : w43.cell? ⟨gb136, 1, none⟩ = some (.int .i64 t133) := (blk_cell BK136.out 1).trans rfl; have hcz44_2 : w43.cell? ⟨gb136, 2, none⟩ = some (.int .i64 t134) := (blk_cell BK136.out 2).trans rfl; have hfz44_0 := blk_frozen BK136.out 0; have hfz44_1 := blk_frozen BK136.out 1; have hfz44_2 := blk_frozen BK136.out 2))
                      go_meet
                      case rel => exact ⟨_, (true), (by first | rfl | (simp; done) | (simp [*]; done)), H', ⟨by have := HJ5.out; first | omega | exact Nat.le_refl _⟩, ⟨by (with_reducible repeat (first | refine blk_drewN ?_ _ | refine blk_drew ?_ | refine blk_alloc ?_ _)); exact BK136.out⟩, ⟨by repeat (first | (with_reducible first | exact HB.out | apply below_alloc | apply pw_below_drewN | apply below_drew1 | refine below_set ?_ GE136.out) | exact HB.out)⟩⟩
                    · rw [if_neg c41] at H
                      have c41b0 : decide ((wrap64 ((ji18) + t134)) < t133) = false := decide_eq_false c41
                      clear c41
                      by_cases c45 : t134 = 0
                      · rw [if_pos c45] at H
                        exact absurd H (by simp)
                      · rw [if_neg c45] at H
                        have c45b0 : (t134 == 0) = false := beq_eq_false_iff_ne.mpr c45
                        have c45b1 : (t134 != 0) = true := bne_iff_ne.mpr c45
                        have H' := Aside0.mk H
                        clear H
                        have hcz46_0 : w24.cell? ⟨gb136, 0, none⟩ = some (.int .i64 0) := (blk_cell BK136.out 0).trans rfl
                        have hcz46_1 : w24.cell? ⟨gb136, 1, none⟩ = some (.int .i64 0) := (blk_cell BK136.out 1).trans rfl
                        have hcz46_2 : w24.cell? ⟨gb136, 2, none⟩ = some (.int .i64 0) := (blk_cell BK136.out 2).trans rfl
                        have hfz46_0 := blk_frozen BK136.out 0
                        have hfz46_1 := blk_frozen BK136.out 1
                        have hfz46_2 := blk_frozen BK136.out 2
                        go_wp2_with (first | (go_at_call 18; (with_reducible refine (scale_Check.calls kj5 t132 t133 t134 t137 _ A27.out).mono ?_); rintro e w47 ⟨rfl, hb⟩; have n0_ := Aside0.mk (blk_below (g := gb136) (o := .cells #[.int .i64 t132, .int .i64 t133, .int .i64 t134] 41 (0, 0)) (by (with_reducible repeat (first | refine blk_drewN ?_ _ | refine blk_drew ?_ | refine blk_alloc ?_ _)); refine blk_put (cs := #[.int .i64 t132, .int .i64 t133, .int .i64 0]) ?_ 2 _ rfl; (with_reducible repeat (first | refine blk_drewN ?_ _ | refine blk_drew ?_ | refine blk_alloc ?_ _)); refine blk_put (cs := #[.int .i64 t132, .int .i64 0, .int .i64 0]) ?_ 1 _ rfl; (with_reducible repeat (first | refine blk_drewN ?_ _ | refine blk_drew ?_ | refine blk_alloc ?_ _)); refine blk_put (cs := #[.int .i64 0, .int .i64 0, .int .i64 0]) ?_ 0 _ rfl; (with_reducible repeat (first | refine blk_drewN ?_ _ | refine blk_drew ?_ | refine blk_alloc ?_ _)); exact BK136.out) hb); have n1_ := Aside0.mk (below_step (by repeat (first | (with_reducible first | exact HB.out | apply below_alloc | apply pw_below_drewN | apply below_drew1 | refine below_set ?_ GE136.out) | exact HB.out)) hb); clear BK136; clear HB; have BK136 := n0_; have HB := n1_; clear n0_ n1_; (try clear hb); (try clear hb2); (try clear hk); (try clear hi); have hcz48_0 : w47.cell? ⟨gb136, 0, none⟩ = some (.int .i64 t132) := (blk_cell BK136.out 0).trans rfl; have hcz48_1 : w47.cell? ⟨gb136, 1, none⟩ = some (.int .i64 t133) := (blk_cell BK136.out 1).trans rfl; have hcz48_2 : w47.cell? ⟨gb136, 2, none⟩ = some (.int .i64 t134) := (blk_cell BK136.out 2).trans rfl; have hfz48_0 := blk_frozen BK136.out 0; have hfz48_1 := blk_frozen BK136.out 1; have hfz48_2 := blk_frozen BK136.out 2))
                        go_meet
                        case rel => exact ⟨_, (decide ((wrap64 (Int.tdiv (wrap64 (t133 - t132)) t134)) > t130)), (by first | rfl | (simp; done) | (simp [*]; done)), H', ⟨by have := HJ5.out; first | omega | exact Nat.le_refl _⟩, ⟨by (with_reducible repeat (first | refine blk_drewN ?_ _ | refine blk_drew ?_ | refine blk_alloc ?_ _)); exact BK136.out⟩, ⟨by repeat (first | (with_reducible first | exact HB.out | apply below_alloc | apply pw_below_drewN | apply below_drew1 | refine below_set ?_ GE136.out) | exact HB.out)⟩⟩
            · rw [if_neg c28] at H
              have c28b0 : (t137 == 0) = false := beq_eq_false_iff_ne.mpr c28
              have c28b1 : (t137 != 0) = true := bne_iff_ne.mpr c28
              have H' := Aside0.mk H
              clear H
              have hcz49_0 : w24.cell? ⟨gb136, 0, none⟩ = some (.int .i64 0) := (blk_cell BK136.out 0).trans rfl
              have hcz49_1 : w24.cell? ⟨gb136, 1, none⟩ = some (.int .i64 0) := (blk_cell BK136.out 1).trans rfl
              have hcz49_2 : w24.cell? ⟨gb136, 2, none⟩ = some (.int .i64 0) := (blk_cell BK136.out 2).trans rfl
              have hfz49_0 := blk_frozen BK136.out 0
              have hfz49_1 := blk_frozen BK136.out 1
              have hfz49_2 := blk_frozen BK136.out 2
              go_wp2_with (first | (go_at_call 18; (with_reducible refine (scale_Check.calls kj5 t132 t133 t134 t137 _ A27.out).mono ?_); rintro e w50 ⟨rfl, hb⟩; have n0_ := Aside0.mk (blk_below (g := gb136) (o := .cells #[.int .i64 t132, .int .i64 t133, .int .i64 t134] 41 (0, 0)) (by (with_reducible repeat (first | refine blk_drewN ?_ _ | refine blk_drew ?_ | refine blk_alloc ?_ _)); refine blk_put (cs := #[.int .i64 t132, .int .i64 t133, .int .i64 0]) ?_ 2 _ rfl; (with_reducible repeat (first | refine blk_drewN ?_ _ | refine blk_drew ?_ | refine blk_alloc ?_ _)); refine blk_put (cs := #[.int .i64 t132, .int .i64 0, .int .i64 0]) ?_ 1 _ rfl; (with_reducible repeat (first | refine blk_drewN ?_ _ | refine blk_drew ?_ | refine blk_alloc ?_ _)); refine blk_put (cs := #[.int .i64 0, .int .i64 0, .int .i64 0]) ?_ 0 _ rfl; (with_reducible repeat (first | refine blk_drewN ?_ _ | refine blk_drew ?_ | refine blk_alloc ?_ _)); exact BK136.out) hb); have n1_ := Aside0.mk (below_step (by repeat (first | (with_reducible first | exact HB.out | apply below_alloc | apply pw_below_drewN | apply below_drew1 | refine below_set ?_ GE136.out) | exact HB.out)) hb); clear BK136; clear HB; have BK136 := n0_; have HB := n1_; clear n0_ n1_; (try clear hb); (try clear hb2); (try clear hk); (try clear hi)))
              go_meet
              case rel => exact ⟨_, (true), (by first | rfl | (simp; done) | (simp [*]; done)), H', ⟨by have := HJ5.out; first | omega | exact Nat.le_refl _⟩, ⟨by (with_reducible repeat (first | refine blk_drewN ?_ _ | refine blk_drew ?_ | refine blk_alloc ?_ _)); exact BK136.out⟩, ⟨by repeat (first | (with_reducible first | exact HB.out | apply below_alloc | apply pw_below_drewN | apply below_drew1 | refine below_set ?_ GE136.out) | exact HB.out)⟩⟩
          · rw [if_neg c26] at H
            have c26b0 : (t135 == 0) = false := beq_eq_false_iff_ne.mpr c26
            have c26b1 : (t135 != 0) = true := bne_iff_ne.mpr c26
            (first | rw [c26b0] | (simp only [i64_w, i32_w]; rw [c26b0]) | skip)
            have H' := Aside0.mk H
            clear H
            go_wp2
            go_meet
            case rel => exact ⟨_, (true), (by first | rfl | (simp; done) | (simp [*]; done)), H', ⟨by have := HJ5.out; first | omega | exact Nat.le_refl _⟩, ⟨by (with_reducible repeat (first | refine blk_drewN ?_ _ | refine blk_drew ?_ | refine blk_alloc ?_ _)); refine blk_put (cs := #[.int .i64 t132, .int .i64 t133, .int .i64 0]) ?_ 2 _ rfl; (with_reducible repeat (first | refine blk_drewN ?_ _ | refine blk_drew ?_ | refine blk_alloc ?_ _)); refine blk_put (cs := #[.int .i64 t132, .int .i64 0, .int .i64 0]) ?_ 1 _ rfl; (with_reducible repeat (first | refine blk_drewN ?_ _ | refine blk_drew ?_ | refine blk_alloc ?_ _)); refine blk_put (cs := #[.int .i64 0, .int .i64 0, .int .i64 0]) ?_ 0 _ rfl; (with_reducible repeat (first | refine blk_drewN ?_ _ | refine blk_drew ?_ | refine blk_alloc ?_ _)); exact BK136.out⟩, ⟨by repeat (first | (with_reducible first | exact HB.out | apply below_alloc | apply pw_below_drewN | apply below_drew1 | refine below_set ?_ GE136.out) | exact HB.out)⟩⟩
        case rest =>
          clear HC22
          try clear c1
          try clear c2
          try clear p2
          try clear c3
          try clear p3
          try clear c4
          try clear c5
          try clear p6
          try clear c8
          try clear c8b0
          try clear c8b1
          try clear c13
          try clear c14
          try clear c15
          try clear c17
          try clear c26
          try clear c26b0
          try clear c26b1
          try clear c28
          try clear c28b0
          try clear c28b1
          try clear c29
          try clear c29b0
          try clear c33
          try clear c33b0
          try clear c37
          try clear c37b0
          try clear c41
          try clear c41b0
          try clear c45
          try clear c45b0
          try clear c45b1
          try clear hcz25_0
          try clear hcz25_1
          try clear hcz25_2
          try clear hcz30_0
          try clear hcz30_1
          try clear hcz30_2
          try clear hcz32_0
          try clear hcz32_1
          try clear hcz32_2
          try clear hcz34_0
          try clear hcz34_1
          try clear hcz34_2
          try clear hcz36_0
          try clear hcz36_1
          try clear hcz36_2
          try clear hcz38_0
          try clear hcz38_1
          try clear hcz38_2
          try clear hcz40_0
          try clear hcz40_1
          try clear hcz40_2
          try clear hcz42_0
          try clear hcz42_1
          try clear hcz42_2
          try clear hcz44_0
          try clear hcz44_1
          try clear hcz44_2
          try clear hcz46_0
          try clear hcz46_1
          try clear hcz46_2
          try clear hcz48_0
          try clear hcz48_1
          try clear hcz48_2
          try clear hcz49_0
          try clear hcz49_1
          try clear hcz49_2
          try clear hfz25_0
          try clear hfz25_1
          try clear hfz25_2
          try clear hfz30_0
          try clear hfz30_1
          try clear hfz30_2
          try clear hfz32_0
          try clear hfz32_1
          try clear hfz32_2
          try clear hfz34_0
          try clear hfz34_1
          try clear hfz34_2
          try clear hfz36_0
          try clear hfz36_1
          try clear hfz36_2
          try clear hfz38_0
          try clear hfz38_1
          try clear hfz38_2
          try clear hfz40_0
          try clear hfz40_1
          try clear hfz40_2
          try clear hfz42_0
          try clear hfz42_1
          try clear hfz42_2
          try clear hfz44_0
          try clear hfz44_1
          try clear hfz44_2
          try clear hfz46_0
          try clear hfz46_1
          try clear hfz46_2
          try clear hfz48_0
          try clear hfz48_1
          try clear hfz48_2
          try clear hfz49_0
          try clear hfz49_1
          try clear hfz49_2
          try clear p2
          try clear p3
          obtain ⟨kq, x102_21, rfl, HA, HJ21, BK136, HB⟩ := hcut
          cases kq with
          | zero => exact absurd HA.out (by simp [chancerykeep3_ScaleContainsValues.j1])
          | succ kj21 =>
            have H := HA.out
            clear HA
            simp only [chancerykeep3_ScaleContainsValues.j1] at H
            by_cases c51 : x102_21 = true
            · subst c51
              have H1 : (some false) = some r := by rw [if_pos rfl] at H; exact H
              clear H
              have H := H1
              clear H1
              obtain rfl := Option.some.inj H
              go_wp2
              go_ret
              exact ⟨by first | rfl | (simp [errW_none, errW_some] <;> rfl) | (simp only [← hji17, ← hji18]; first | rfl | (simp [errW_none, errW_some] <;> rfl)) | (simp [*, errW_none, errW_some] <;> rfl), by repeat (first | (with_reducible first | exact HB.out | apply below_alloc | apply pw_below_drewN | apply below_drew1 | refine below_set ?_ GE136.out) | exact HB.out)⟩
            · replace c51 := Bool.eq_false_iff.mpr c51
              subst c51
              have H1 : ((scale_Marks.f kj21 t132 t133 t134).bind fun bt138 => (if bt138.2 = 0 then (if t134 = 0 then (none) else (chancerykeep3_ScaleContainsValues.j2 kj21 t131 bt138.1 ((bt138.1.length : Int) != (wrap64 ((wrap64 (Int.tdiv (wrap64 (t133 - t132)) t134)) + 1))) t132 t133 t134)) else (chancerykeep3_ScaleContainsValues.j2 kj21 t131 bt138.1 true t132 t133 t134))) = some r := by rw [if_neg (show ¬ (false = true) by decide)] at H; exact H
              clear H
              have H := H1
              clear H1
              replace H := Option.bind_eq_some_iff.mp H
              obtain ⟨⟨t138, t141⟩, A520, H⟩ := H
              replace H : (if t141 = 0 then (if t134 = 0 then (none) else (chancerykeep3_ScaleContainsValues.j2 kj21 t131 t138 ((t138.length : Int) != (wrap64 ((wrap64 (Int.tdiv (wrap64 (t133 - t132)) t134)) + 1))) t132 t133 t134)) else (chancerykeep3_ScaleContainsValues.j2 kj21 t131 t138 true t132 t133 t134)) = some r := H
              have A52 := Aside0.mk A520
              clear A520
              have HC53 := Aside0.mk H
              clear H
              have hcz54_0 : wc.cell? ⟨gb136, 0, none⟩ = some (.int .i64 t132) := (blk_cell BK136.out 0).trans rfl
              have hcz54_1 : wc.cell? ⟨gb136, 1, none⟩ = some (.int .i64 t133) := (blk_cell BK136.out 1).trans rfl
              have hcz54_2 : wc.cell? ⟨gb136, 2, none⟩ = some (.int .i64 t134) := (blk_cell BK136.out 2).trans rfl
              have hfz54_0 := blk_frozen BK136.out 0
              have hfz54_1 := blk_frozen BK136.out 1
              have hfz54_2 := blk_frozen BK136.out 2
              go_upto_region 11 with (first | ((with_reducible refine gate_callee (f := 15) rfl ?_); refine goesL_ (some 105) rfl rfl Try.func15 (by kernel_rfl) rfl #[.agg #[.int .i64 t132, .int .i64 t133, .int .i64 t134]] rfl (by (try simp only [List.map_toArray, List.map_cons, List.map_nil]); first | done | rfl | (simp only [List.length_drop, List.length_take]; rfl)) ?_; (with_reducible refine (scale_Marks.calls kj21 t132 t133 t134 t138 t141 _ A52.out).mono ?_); rintro e w55 ⟨v139, rfl, ho0, hb⟩; refine ⟨_, rfl, ?_⟩; have n0_ := Aside0.mk (Kd.R_lower ho0 (below_size (by repeat (first | (with_reducible first | exact HB.out | apply below_alloc | apply pw_below_drewN | apply below_drew1 | refine below_set ?_ GE136.out) | exact HB.out)))); have n1_ := Aside0.mk (blk_below (g := gb136) (o := .cells #[.int .i64 t132, .int .i64 t133, .int .i64 t134] 41 (0, 0)) (by (with_reducible repeat (first | refine blk_drewN ?_ _ | refine blk_drew ?_ | refine blk_alloc ?_ _)); exact BK136.out) hb); have n2_ := Aside0.mk (below_step (by repeat (first | (with_reducible first | exact HB.out | apply below_alloc | apply pw_below_drewN | apply below_drew1 | refine below_set ?_ GE136.out) | exact HB.out)) hb); clear BK136; clear HB; have HO140 := n0_; have BK136 := n1_; have HB := n2_; clear n0_ n1_ n2_; (try clear hb); (try clear hb2); (try clear hk); (try clear hi); (try clear ho0)))
              (try simp only [Act.put, List.setIfInBounds_toArray, List.set_cons_zero, List.set_cons_succ])
              go_cut [123] (fun v123 wc => ∃ (kq : Nat) (x123_52 : Bool), v123 = .bool x123_52 ∧ Aside0 (chancerykeep3_ScaleContainsValues.j2 kq t131 t138 x123_52 t132 t133 t134 = some r) ∧ Aside0 (kq ≤ kj21) ∧ Aside0 (Kd.R (Kd.int .i64) 3 wc w.heap.size (fun _ => True) v139 t138) ∧ Aside0 (wc.heap[gb136]? = some (.cells #[.int .i64 t132, .int .i64 t133, .int .i64 t134] 41 (0, 0))) ∧ Aside0 (Below w.heap.size w wc))
              case first =>
                have H := HC53.out
                clear HC53
                by_cases c56 : t141 = 0
                · rw [if_pos c56] at H
                  have c56b0 : (t141 == 0) = true := beq_iff_eq.mpr c56
                  have c56b1 : (t141 != 0) = false := bne_eq_false_iff_eq.mpr c56
                  clear c56
                  (first | rw [c56b0] | (simp only [i64_w, i32_w]; rw [c56b0]) | skip)
                  by_cases c57 : t134 = 0
                  · rw [if_pos c57] at H
                    exact absurd H (by simp)
                  · rw [if_neg c57] at H
                    have c57b0 : (t134 == 0) = false := beq_eq_false_iff_ne.mpr c57
                    have c57b1 : (t134 != 0) = true := bne_iff_ne.mpr c57
                    have H' := Aside0.mk H
                    clear H
                    obtain ⟨Ao58, co58, eo58⟩ := Kd.R_slice HO140.out
                    subst eo58
                    have hcz59_0 : w55.cell? ⟨gb136, 0, none⟩ = some (.int .i64 t132) := (blk_cell BK136.out 0).trans rfl
                    have hcz59_1 : w55.cell? ⟨gb136, 1, none⟩ = some (.int .i64 t133) := (blk_cell BK136.out 1).trans rfl
                    have hcz59_2 : w55.cell? ⟨gb136, 2, none⟩ = some (.int .i64 t134) := (blk_cell BK136.out 2).trans rfl
                    have hfz59_0 := blk_frozen BK136.out 0
                    have hfz59_1 := blk_frozen BK136.out 1
                    have hfz59_2 := blk_frozen BK136.out 2
                    go_wp2
                    go_meet
                    case rel => exact ⟨_, (((t138.length : Int) != (wrap64 ((wrap64 (Int.tdiv (wrap64 (t133 - t132)) t134)) + 1)))), (by first | rfl | (simp; done) | (simp [*]; done)), H', ⟨by have := HJ5.out; have := HJ21.out; first | omega | exact Nat.le_refl _⟩, ⟨by (with_reducible repeat (first | apply Kd.R_alloc | apply Kd.R_drewN | apply Kd.R_drew)); exact HO140.out⟩, ⟨by (with_reducible repeat (first | refine blk_drewN ?_ _ | refine blk_drew ?_ | refine blk_alloc ?_ _)); exact BK136.out⟩, ⟨by repeat (first | (with_reducible first | exact HB.out | apply below_alloc | apply pw_below_drewN | apply below_drew1 | refine below_set ?_ GE136.out) | exact HB.out)⟩⟩
                · rw [if_neg c56] at H
                  have c56b0 : (t141 == 0) = false := beq_eq_false_iff_ne.mpr c56
                  have c56b1 : (t141 != 0) = true := bne_iff_ne.mpr c56
                  (first | rw [c56b0] | (simp only [i64_w, i32_w]; rw [c56b0]) | skip)
                  have H' := Aside0.mk H
                  clear H
                  go_wp2
                  go_meet
                  case rel => exact ⟨_, (true), (by first | rfl | (simp; done) | (simp [*]; done)), H', ⟨by have := HJ5.out; have := HJ21.out; first | omega | exact Nat.le_refl _⟩, ⟨by (with_reducible repeat (first | apply Kd.R_alloc | apply Kd.R_drewN | apply Kd.R_drew)); exact HO140.out⟩, ⟨by (with_reducible repeat (first | refine blk_drewN ?_ _ | refine blk_drew ?_ | refine blk_alloc ?_ _)); exact BK136.out⟩, ⟨by repeat (first | (with_reducible first | exact HB.out | apply below_alloc | apply pw_below_drewN | apply below_drew1 | refine below_set ?_ GE136.out) | exact HB.out)⟩⟩
              case rest =>
                clear HC53
                try clear c1
                try clear c2
                try clear p2
                try clear c3
                try clear p3
                try clear c4
                try clear c5
                try clear p6
                try clear c8
                try clear c8b0
                try clear c8b1
                try clear c13
                try clear c14
                try clear c15
                try clear c17
                try clear c26
                try clear c26b0
                try clear c26b1
                try clear c28
                try clear c28b0
                try clear c28b1
                try clear c29
                try clear c29b0
                try clear c33
                try clear c33b0
                try clear c37
                try clear c37b0
                try clear c41
                try clear c41b0
                try clear c45
                try clear c45b0
                try clear c45b1
                try clear c51
                try clear c56
                try clear c56b0
                try clear c56b1
                try clear c57
                try clear c57b0
                try clear c57b1
                try clear hcz25_0
                try clear hcz25_1
                try clear hcz25_2
                try clear hcz30_0
                try clear hcz30_1
                try clear hcz30_2
                try clear hcz32_0
                try clear hcz32_1
                try clear hcz32_2
                try clear hcz34_0
                try clear hcz34_1
                try clear hcz34_2
                try clear hcz36_0
                try clear hcz36_1
                try clear hcz36_2
                try clear hcz38_0
                try clear hcz38_1
                try clear hcz38_2
                try clear hcz40_0
                try clear hcz40_1
                try clear hcz40_2
                try clear hcz42_0
                try clear hcz42_1
                try clear hcz42_2
                try clear hcz44_0
                try clear hcz44_1
                try clear hcz44_2
                try clear hcz46_0
                try clear hcz46_1
                try clear hcz46_2
                try clear hcz48_0
                try clear hcz48_1
                try clear hcz48_2
                try clear hcz49_0
                try clear hcz49_1
                try clear hcz49_2
                try clear hcz54_0
                try clear hcz54_1
                try clear hcz54_2
                try clear hcz59_0
                try clear hcz59_1
                try clear hcz59_2
                try clear hfz25_0
                try clear hfz25_1
                try clear hfz25_2
                try clear hfz30_0
                try clear hfz30_1
                try clear hfz30_2
                try clear hfz32_0
                try clear hfz32_1
                try clear hfz32_2
                try clear hfz34_0
                try clear hfz34_1
                try clear hfz34_2
                try clear hfz36_0
                try clear hfz36_1
                try clear hfz36_2
                try clear hfz38_0
                try clear hfz38_1
                try clear hfz38_2
                try clear hfz40_0
                try clear hfz40_1
                try clear hfz40_2
                try clear hfz42_0
                try clear hfz42_1
                try clear hfz42_2
                try clear hfz44_0
                try clear hfz44_1
                try clear hfz44_2
                try clear hfz46_0
                try clear hfz46_1
                try clear hfz46_2
                try clear hfz48_0
                try clear hfz48_1
                try clear hfz48_2
                try clear hfz49_0
                try clear hfz49_1
                try clear hfz49_2
                try clear hfz54_0
                try clear hfz54_1
                try clear hfz54_2
                try clear hfz59_0
                try clear hfz59_1
                try clear hfz59_2
                try clear p2
                try clear p3
                try clear p6
                obtain ⟨kq, x123_52, rfl, HA, HJ52, HO_13, BK136, HB⟩ := hcut
                cases kq with
                | zero => exact absurd HA.out (by simp [chancerykeep3_ScaleContainsValues.j2])
                | succ kj52 =>
                  have H := HA.out
                  clear HA
                  simp only [chancerykeep3_ScaleContainsValues.j2] at H
                  by_cases c60 : x123_52 = true
                  · subst c60
                    have H1 : (some false) = some r := by rw [if_pos rfl] at H; exact H
                    clear H
                    have H := H1
                    clear H1
                    obtain rfl := Option.some.inj H
                    go_wp2
                    go_ret
                    exact ⟨by first | rfl | (simp [errW_none, errW_some] <;> rfl) | (simp only [← hji17, ← hji18]; first | rfl | (simp [errW_none, errW_some] <;> rfl)) | (simp [*, errW_none, errW_some] <;> rfl), by repeat (first | (with_reducible first | exact HB.out | apply below_alloc | apply pw_below_drewN | apply below_drew1 | refine below_set ?_ GE136.out) | exact HB.out)⟩
                  · replace c60 := Bool.eq_false_iff.mpr c60
                    subst c60
                    have H1 : (chancerykeep3_ScaleContainsValues.l0 kj52 t131 t138 0 t138 (t138.length : Int) 0 t132 t133 t134) = some r := by rw [if_neg (show ¬ (false = true) by decide)] at H; exact H
                    clear H
                    have H := H1
                    clear H1
                    have H' := Aside0.mk H
                    clear H
                    obtain ⟨Ao61, co61, eo61⟩ := Kd.R_slice HO_13.out
                    subst eo61
                    go_wp2
                    go_loopg [15, 126] kj52 (fun kq v15 v126 w' => ∃ (x15_4 : Int) (x126_4 : Int), v15 = .int .i64 x15_4 ∧ v126 = .int .i64 x126_4 ∧ Aside0 (chancerykeep3_ScaleContainsValues.l0 kq t131 t138 x15_4 t138 (t138.length : Int) x126_4 t132 t133 t134 = some r) ∧ Aside0 (kq ≤ kj52) ∧ Aside0 (Kd.R (Kd.int .i64) 3 w' w.heap.size (fun _ => True) (.slice Ao61 t138.length co61) t138) ∧ Aside0 (Kd.R (Kd.int .i64) 3 w' w.heap.size (fun _ => True) (.slice Ao61 t138.length co61) t138) ∧ Aside0 (w'.heap[gb136]? = some (.cells #[.int .i64 t132, .int .i64 t133, .int .i64 t134] 41 (0, 0))) ∧ Aside0 (Below w.heap.size w w'))
                    case atStart => exact ⟨(0), (0), (by first | rfl | (simp; done) | (simp [*]; done)), (by first | rfl | (simp; done) | (simp [*]; done)), H', ⟨Nat.le_refl _⟩, ⟨by (with_reducible repeat (first | apply Kd.R_alloc | apply Kd.R_drewN | apply Kd.R_drew)); exact HO_13.out⟩, ⟨by (with_reducible repeat (first | apply Kd.R_alloc | apply Kd.R_drewN | apply Kd.R_drew)); exact HO_13.out⟩, ⟨by (with_reducible repeat (first | refine blk_drewN ?_ _ | refine blk_drew ?_ | refine blk_alloc ?_ _)); exact BK136.out⟩, ⟨by repeat (first | (with_reducible first | exact HB.out | apply below_alloc | apply pw_below_drewN | apply below_drew1 | refine below_set ?_ GE136.out) | exact HB.out)⟩⟩
                    case round =>
                      clear H'
                      try clear c1
                      try clear c2
                      try clear p2
                      try clear c3
                      try clear p3
                      try clear c4
                      try clear c5
                      try clear c6
                      try clear p6
                      try clear c8
                      try clear c8b0
                      try clear c8b1
                      try clear c13
                      try clear c14
                      try clear c15
                      try clear c17
                      try clear c26
                      try clear c26b0
                      try clear c26b1
                      try clear c28
                      try clear c28b0
                      try clear c28b1
                      try clear c29
                      try clear c29b0
                      try clear c33
                      try clear c33b0
                      try clear c37
                      try clear c37b0
                      try clear c41
                      try clear c41b0
                      try clear c45
                      try clear c45b0
                      try clear c45b1
                      try clear c51
                      try clear c56
                      try clear c56b0
                      try clear c56b1
                      try clear c57
                      try clear c57b0
                      try clear c57b1
                      try clear c60
                      try clear hcz25_0
                      try clear hcz25_1
                      try clear hcz25_2
                      try clear hcz30_0
                      try clear hcz30_1
                      try clear hcz30_2
                      try clear hcz32_0
                      try clear hcz32_1
                      try clear hcz32_2
                      try clear hcz34_0
                      try clear hcz34_1
                      try clear hcz34_2
                      try clear hcz36_0
                      try clear hcz36_1
                      try clear hcz36_2
                      try clear hcz38_0
                      try clear hcz38_1
                      try clear hcz38_2
                      try clear hcz40_0
                      try clear hcz40_1
                      try clear hcz40_2
                      try clear hcz42_0
                      try clear hcz42_1
                      try clear hcz42_2
                      try clear hcz44_0
                      try clear hcz44_1
                      try clear hcz44_2
                      try clear hcz46_0
                      try clear hcz46_1
                      try clear hcz46_2
                      try clear hcz48_0
                      try clear hcz48_1
                      try clear hcz48_2
                      try clear hcz49_0
                      try clear hcz49_1
                      try clear hcz49_2
                      try clear hcz54_0
                      try clear hcz54_1
                      try clear hcz54_2
                      try clear hcz59_0
                      try clear hcz59_1
                      try clear hcz59_2
                      try clear hfz25_0
                      try clear hfz25_1
                      try clear hfz25_2
                      try clear hfz30_0
                      try clear hfz30_1
                      try clear hfz30_2
                      try clear hfz32_0
                      try clear hfz32_1
                      try clear hfz32_2
                      try clear hfz34_0
                      try clear hfz34_1
                      try clear hfz34_2
                      try clear hfz36_0
                      try clear hfz36_1
                      try clear hfz36_2
                      try clear hfz38_0
                      try clear hfz38_1
                      try clear hfz38_2
                      try clear hfz40_0
                      try clear hfz40_1
                      try clear hfz40_2
                      try clear hfz42_0
                      try clear hfz42_1
                      try clear hfz42_2
                      try clear hfz44_0
                      try clear hfz44_1
                      try clear hfz44_2
                      try clear hfz46_0
                      try clear hfz46_1
                      try clear hfz46_2
                      try clear hfz48_0
                      try clear hfz48_1
                      try clear hfz48_2
                      try clear hfz49_0
                      try clear hfz49_1
                      try clear hfz49_2
                      try clear hfz54_0
                      try clear hfz54_1
                      try clear hfz54_2
                      try clear hfz59_0
                      try clear hfz59_1
                      try clear hfz59_2
                      try clear p2
                      try clear p3
                      try clear p6
                      obtain ⟨x15_4, x126_4, rfl, rfl, HA, HK4, HO_13, HO_124, BK136, HB⟩ := hrel
                      cases gk with
                      | zero => exact absurd HA.out (by simp [chancerykeep3_ScaleContainsValues.l0])
                      | succ k4 =>
                        have H := HA.out
                        clear HA
                        simp only [chancerykeep3_ScaleContainsValues.l0] at H
                        by_cases c62 : x126_4 < (t138.length : Int)
                        · rw [if_pos c62] at H
                          have c62b0 : decide (x126_4 < (t138.length : Int)) = true := decide_eq_true c62
                          clear c62
                          by_cases c63 : 0 ≤ x126_4
                          · rw [if_pos c63] at H
                            have c63b0 : decide (0 ≤ x126_4) = true := decide_eq_true c63
                            clear c63
                            by_cases c64 : x126_4 < (t138.length : Int)
                            · rw [if_pos c64] at H
                              have c64b0 : decide (x126_4 < (t138.length : Int)) = true := decide_eq_true c64
                              clear c64
                              replace H := Option.bind_eq_some_iff.mp H
                              obtain ⟨⟨t143, t144⟩, A650, H⟩ := H
                              replace H : (if t144 = 0 then (if t143 < x15_4 then (some false) else (if x126_4 = 0 then (if t143 = 0 then (if x126_4 = (wrap64 ((t138.length : Int) - 1)) then (if t143 = t131 then (chancerykeep3_ScaleContainsValues.l0 k4 t131 t138 t143 t138 (t138.length : Int) (wrap64 (x126_4 + 1)) t132 t133 t134) else (some false)) else (chancerykeep3_ScaleContainsValues.l0 k4 t131 t138 t143 t138 (t138.length : Int) (wrap64 (x126_4 + 1)) t132 t133 t134)) else (some false)) else (if x126_4 = (wrap64 ((t138.length : Int) - 1)) then (if t143 = t131 then (chancerykeep3_ScaleContainsValues.l0 k4 t131 t138 t143 t138 (t138.length : Int) (wrap64 (x126_4 + 1)) t132 t133 t134) else (some false)) else (chancerykeep3_ScaleContainsValues.l0 k4 t131 t138 t143 t138 (t138.length : Int) (wrap64 (x126_4 + 1)) t132 t133 t134)))) else (some false)) = some r := H
                              have A65 := Aside0.mk A650
                              clear A650
                              by_cases c66 : t144 = 0
                              · rw [if_pos c66] at H
                                have c66b0 : (t144 == 0) = true := beq_iff_eq.mpr c66
                                have c66b1 : (t144 != 0) = false := bne_eq_false_iff_eq.mpr c66
                                clear c66
                                by_cases c67 : t143 < x15_4
                                · rw [if_pos c67] at H
                                  have c67b0 : decide (t143 < x15_4) = true := decide_eq_true c67
                                  clear c67
                                  obtain rfl := Option.some.inj H
                                  have p142 : 0 ≤ (x126_4 : Int) := of_decide_eq_true (by first | (with_reducible assumption) | assumption)
                                  have q142 : x126_4 < (t138.length : Int) := of_decide_eq_true (by first | (with_reducible assumption) | assumption)
                                  obtain ⟨ad142, e142, hx142_0⟩ := Kd.at_int (Kd.R_reads' HO_124.out).2.2 x126_4 p142 q142
                                  cases e142
                                  replace p142 := eq_true p142
                                  replace q142 := eq_true q142
                                  have hcz68_0 : wr.cell? ⟨gb136, 0, none⟩ = some (.int .i64 t132) := (blk_cell BK136.out 0).trans rfl
                                  have hcz68_1 : wr.cell? ⟨gb136, 1, none⟩ = some (.int .i64 t133) := (blk_cell BK136.out 1).trans rfl
                                  have hcz68_2 : wr.cell? ⟨gb136, 2, none⟩ = some (.int .i64 t134) := (blk_cell BK136.out 2).trans rfl
                                  have hfz68_0 := blk_frozen BK136.out 0
                                  have hfz68_1 := blk_frozen BK136.out 1
                                  have hfz68_2 := blk_frozen BK136.out 2
                                  go_wp2_with (first | ((with_reducible refine gate_callee (f := 19) rfl ?_); refine goesL_ (some 135) rfl rfl Try.func19 (by kernel_rfl) rfl #[.agg #[.int .i64 t132, .int .i64 t133, .int .i64 t134], .int .i64 (rd t138 x126_4), .int .i64 t131] rfl (by (try simp only [List.map_toArray, List.map_cons, List.map_nil]); first | done | rfl | (simp only [List.length_drop, List.length_take]; rfl)) ?_; (with_reducible refine (scale_Place.calls k4 t132 t133 t134 (rd t138 x126_4) t131 t143 t144 _ A65.out).mono ?_); rintro e w69 ⟨rfl, hb⟩; refine ⟨_, rfl, ?_⟩; have n0_ := Aside0.mk (Kd.R_below (by (with_reducible repeat (first | apply Kd.R_alloc | apply Kd.R_drewN | apply Kd.R_drew)); exact HO_13.out) hb); have n1_ := Aside0.mk (Kd.R_below (by (with_reducible repeat (first | apply Kd.R_alloc | apply Kd.R_drewN | apply Kd.R_drew)); exact HO_124.out) hb); have n2_ := Aside0.mk (blk_below (g := gb136) (o := .cells #[.int .i64 t132, .int .i64 t133, .int .i64 t134] 41 (0, 0)) (by (with_reducible repeat (first | refine blk_drewN ?_ _ | refine blk_drew ?_ | refine blk_alloc ?_ _)); exact BK136.out) hb); have n3_ := Aside0.mk (below_step (by repeat (first | (with_reducible first | exact HB.out | apply below_alloc | apply pw_below_drewN | apply below_drew1 | refine below_set ?_ GE136.out) | exact HB.out)) hb); clear HO_13; clear HO_124; clear BK136; clear HB; have HO_13 := n0_; have HO_124 := n1_; have BK136 := n2_; have HB := n3_; clear n0_ n1_ n2_ n3_; (try clear hb); (try clear hb2); (try clear hk); (try clear hi)))
                                  go_ret
                                  exact ⟨by first | rfl | (simp [errW_none, errW_some] <;> rfl) | (simp only [← hji17, ← hji18]; first | rfl | (simp [errW_none, errW_some] <;> rfl)) | (simp [*, errW_none, errW_some] <;> rfl), by repeat (first | (with_reducible first | exact HB.out | apply below_alloc | apply pw_below_drewN | apply below_drew1 | refine below_set ?_ GE136.out) | exact HB.out)⟩
                                · rw [if_neg c67] at H
                                  have c67b0 : decide (t143 < x15_4) = false := decide_eq_false c67
                                  clear c67
                                  by_cases c70 : x126_4 = 0
                                  · rw [if_pos c70] at H
                                    have c70b0 : (x126_4 == 0) = true := beq_iff_eq.mpr c70
                                    have c70b1 : (x126_4 != 0) = false := bne_eq_false_iff_eq.mpr c70
                                    clear c70
                                    by_cases c71 : t143 = 0
                                    · rw [if_pos c71] at H
                                      have c71b0 : (t143 == 0) = true := beq_iff_eq.mpr c71
                                      have c71b1 : (t143 != 0) = false := bne_eq_false_iff_eq.mpr c71
                                      clear c71
                                      by_cases c72 : x126_4 = (wrap64 ((t138.length : Int) - 1))
                                      · rw [if_pos c72] at H
                                        have c72b0 : (x126_4 == (wrap64 ((t138.length : Int) - 1))) = true := beq_iff_eq.mpr c72
                                        have c72b1 : (x126_4 != (wrap64 ((t138.length : Int) - 1))) = false := bne_eq_false_iff_eq.mpr c72
                                        clear c72
                                        by_cases c73 : t143 = t131
                                        · rw [if_pos c73] at H
                                          have c73b0 : (t143 == t131) = true := beq_iff_eq.mpr c73
                                          have c73b1 : (t143 != t131) = false := bne_eq_false_iff_eq.mpr c73
                                          clear c73
                                          have H' := Aside0.mk H
                                          clear H
                                          have p142 : 0 ≤ (x126_4 : Int) := of_decide_eq_true (by first | (with_reducible assumption) | assumption)
                                          have q142 : x126_4 < (t138.length : Int) := of_decide_eq_true (by first | (with_reducible assumption) | assumption)
                                          obtain ⟨ad142, e142, hx142_0⟩ := Kd.at_int (Kd.R_reads' HO_124.out).2.2 x126_4 p142 q142
                                          cases e142
                                          replace p142 := eq_true p142
                                          replace q142 := eq_true q142
                                          have hcz74_0 : wr.cell? ⟨gb136, 0, none⟩ = some (.int .i64 t132) := (blk_cell BK136.out 0).trans rfl
                                          have hcz74_1 : wr.cell? ⟨gb136, 1, none⟩ = some (.int .i64 t133) := (blk_cell BK136.out 1).trans rfl
                                          have hcz74_2 : wr.cell? ⟨gb136, 2, none⟩ = some (.int .i64 t134) := (blk_cell BK136.out 2).trans rfl
                                          have hfz74_0 := blk_frozen BK136.out 0
                                          have hfz74_1 := blk_frozen BK136.out 1
                                          have hfz74_2 := blk_frozen BK136.out 2
                                          go_wp2_with (first | ((with_reducible refine gate_callee (f := 19) rfl ?_); refine goesL_ (some 135) rfl rfl Try.func19 (by kernel_rfl) rfl #[.agg #[.int .i64 t132, .int .i64 t133, .int .i64 t134], .int .i64 (rd t138 x126_4), .int .i64 t131] rfl (by (try simp only [List.map_toArray, List.map_cons, List.map_nil]); first | done | rfl | (simp only [List.length_drop, List.length_take]; rfl)) ?_; (with_reducible refine (scale_Place.calls k4 t132 t133 t134 (rd t138 x126_4) t131 t143 t144 _ A65.out).mono ?_); rintro e w75 ⟨rfl, hb⟩; refine ⟨_, rfl, ?_⟩; have n0_ := Aside0.mk (Kd.R_below (by (with_reducible repeat (first | apply Kd.R_alloc | apply Kd.R_drewN | apply Kd.R_drew)); exact HO_13.out) hb); have n1_ := Aside0.mk (Kd.R_below (by (with_reducible repeat (first | apply Kd.R_alloc | apply Kd.R_drewN | apply Kd.R_drew)); exact HO_124.out) hb); have n2_ := Aside0.mk (blk_below (g := gb136) (o := .cells #[.int .i64 t132, .int .i64 t133, .int .i64 t134] 41 (0, 0)) (by (with_reducible repeat (first | refine blk_drewN ?_ _ | refine blk_drew ?_ | refine blk_alloc ?_ _)); exact BK136.out) hb); have n3_ := Aside0.mk (below_step (by repeat (first | (with_reducible first | exact HB.out | apply below_alloc | apply pw_below_drewN | apply below_drew1 | refine below_set ?_ GE136.out) | exact HB.out)) hb); clear HO_13; clear HO_124; clear BK136; clear HB; have HO_13 := n0_; have HO_124 := n1_; have BK136 := n2_; have HB := n3_; clear n0_ n1_ n2_ n3_; (try clear hb); (try clear hb2); (try clear hk); (try clear hi)))
                                          go_roundg k4
                                          case measure => have := HJ5.out; have := HJ21.out; have := HJ52.out; have := HK4.out; omega
                                          case rel => exact ⟨(t143), (wrap64 (x126_4 + 1)), (by first | rfl | (simp; done) | (simp [*]; done)), (by first | rfl | (simp; done) | (simp [*]; done)), H', ⟨by have := HJ5.out; have := HJ21.out; have := HJ52.out; have := HK4.out; omega⟩, ⟨by (with_reducible repeat (first | apply Kd.R_alloc | apply Kd.R_drewN | apply Kd.R_drew)); exact HO_13.out⟩, ⟨by (with_reducible repeat (first | apply Kd.R_alloc | apply Kd.R_drewN | apply Kd.R_drew)); exact HO_124.out⟩, ⟨by (with_reducible repeat (first | refine blk_drewN ?_ _ | refine blk_drew ?_ | refine blk_alloc ?_ _)); exact BK136.out⟩, ⟨by repeat (first | (with_reducible first | exact HB.out | apply below_alloc | apply pw_below_drewN | apply below_drew1 | refine below_set ?_ GE136.out) | exact HB.out)⟩⟩
                                        · rw [if_neg c73] at H
                                          have c73b0 : (t143 == t131) = false := beq_eq_false_iff_ne.mpr c73
                                          have c73b1 : (t143 != t131) = true := bne_iff_ne.mpr c73
                                          obtain rfl := Option.some.inj H
                                          have p142 : 0 ≤ (x126_4 : Int) := of_decide_eq_true (by first | (with_reducible assumption) | assumption)
                                          have q142 : x126_4 < (t138.length : Int) := of_decide_eq_true (by first | (with_reducible assumption) | assumption)
                                          obtain ⟨ad142, e142, hx142_0⟩ := Kd.at_int (Kd.R_reads' HO_124.out).2.2 x126_4 p142 q142
                                          cases e142
                                          replace p142 := eq_true p142
                                          replace q142 := eq_true q142
                                          have hcz76_0 : wr.cell? ⟨gb136, 0, none⟩ = some (.int .i64 t132) := (blk_cell BK136.out 0).trans rfl
                                          have hcz76_1 : wr.cell? ⟨gb136, 1, none⟩ = some (.int .i64 t133) := (blk_cell BK136.out 1).trans rfl
                                          have hcz76_2 : wr.cell? ⟨gb136, 2, none⟩ = some (.int .i64 t134) := (blk_cell BK136.out 2).trans rfl
                                          have hfz76_0 := blk_frozen BK136.out 0
                                          have hfz76_1 := blk_frozen BK136.out 1
                                          have hfz76_2 := blk_frozen BK136.out 2
                                          go_wp2_with (first | ((with_reducible refine gate_callee (f := 19) rfl ?_); refine goesL_ (some 135) rfl rfl Try.func19 (by kernel_rfl) rfl #[.agg #[.int .i64 t132, .int .i64 t133, .int .i64 t134], .int .i64 (rd t138 x126_4), .int .i64 t131] rfl (by (try simp only [List.map_toArray, List.map_cons, List.map_nil]); first | done | rfl | (simp only [List.length_drop, List.length_take]; rfl)) ?_; (with_reducible refine (scale_Place.calls k4 t132 t133 t134 (rd t138 x126_4) t131 t143 t144 _ A65.out).mono ?_); rintro e w77 ⟨rfl, hb⟩; refine ⟨_, rfl, ?_⟩; have n0_ := Aside0.mk (Kd.R_below (by (with_reducible repeat (first | apply Kd.R_alloc | apply Kd.R_drewN | apply Kd.R_drew)); exact HO_13.out) hb); have n1_ := Aside0.mk (Kd.R_below (by (with_reducible repeat (first | apply Kd.R_alloc | apply Kd.R_drewN | apply Kd.R_drew)); exact HO_124.out) hb); have n2_ := Aside0.mk (blk_below (g := gb136) (o := .cells #[.int .i64 t132, .int .i64 t133, .int .i64 t134] 41 (0, 0)) (by (with_reducible repeat (first | refine blk_drewN ?_ _ | refine blk_drew ?_ | refine blk_alloc ?_ _)); exact BK136.out) hb); have n3_ := Aside0.mk (below_step (by repeat (first | (with_reducible first | exact HB.out | apply below_alloc | apply pw_below_drewN | apply below_drew1 | refine below_set ?_ GE136.out) | exact HB.out)) hb); clear HO_13; clear HO_124; clear BK136; clear HB; have HO_13 := n0_; have HO_124 := n1_; have BK136 := n2_; have HB := n3_; clear n0_ n1_ n2_ n3_; (try clear hb); (try clear hb2); (try clear hk); (try clear hi)))
                                          go_ret
                                          exact ⟨by first | rfl | (simp [errW_none, errW_some] <;> rfl) | (simp only [← hji17, ← hji18]; first | rfl | (simp [errW_none, errW_some] <;> rfl)) | (simp [*, errW_none, errW_some] <;> rfl), by repeat (first | (with_reducible first | exact HB.out | apply below_alloc | apply pw_below_drewN | apply below_drew1 | refine below_set ?_ GE136.out) | exact HB.out)⟩
                                      · rw [if_neg c72] at H
                                        have c72b0 : (x126_4 == (wrap64 ((t138.length : Int) - 1))) = false := beq_eq_false_iff_ne.mpr c72
                                        have c72b1 : (x126_4 != (wrap64 ((t138.length : Int) - 1))) = true := bne_iff_ne.mpr c72
                                        have H' := Aside0.mk H
                                        clear H
                                        have p142 : 0 ≤ (x126_4 : Int) := of_decide_eq_true (by first | (with_reducible assumption) | assumption)
                                        have q142 : x126_4 < (t138.length : Int) := of_decide_eq_true (by first | (with_reducible assumption) | assumption)
                                        obtain ⟨ad142, e142, hx142_0⟩ := Kd.at_int (Kd.R_reads' HO_124.out).2.2 x126_4 p142 q142
                                        cases e142
                                        replace p142 := eq_true p142
                                        replace q142 := eq_true q142
                                        have hcz78_0 : wr.cell? ⟨gb136, 0, none⟩ = some (.int .i64 t132) := (blk_cell BK136.out 0).trans rfl
                                        have hcz78_1 : wr.cell? ⟨gb136, 1, none⟩ = some (.int .i64 t133) := (blk_cell BK136.out 1).trans rfl
                                        have hcz78_2 : wr.cell? ⟨gb136, 2, none⟩ = some (.int .i64 t134) := (blk_cell BK136.out 2).trans rfl
                                        have hfz78_0 := blk_frozen BK136.out 0
                                        have hfz78_1 := blk_frozen BK136.out 1
                                        have hfz78_2 := blk_frozen BK136.out 2
                                        go_wp2_with (first | ((with_reducible refine gate_callee (f := 19) rfl ?_); refine goesL_ (some 135) rfl rfl Try.func19 (by kernel_rfl) rfl #[.agg #[.int .i64 t132, .int .i64 t133, .int .i64 t134], .int .i64 (rd t138 x126_4), .int .i64 t131] rfl (by (try simp only [List.map_toArray, List.map_cons, List.map_nil]); first | done | rfl | (simp only [List.length_drop, List.length_take]; rfl)) ?_; (with_reducible refine (scale_Place.calls k4 t132 t133 t134 (rd t138 x126_4) t131 t143 t144 _ A65.out).mono ?_); rintro e w79 ⟨rfl, hb⟩; refine ⟨_, rfl, ?_⟩; have n0_ := Aside0.mk (Kd.R_below (by (with_reducible repeat (first | apply Kd.R_alloc | apply Kd.R_drewN | apply Kd.R_drew)); exact HO_13.out) hb); have n1_ := Aside0.mk (Kd.R_below (by (with_reducible repeat (first | apply Kd.R_alloc | apply Kd.R_drewN | apply Kd.R_drew)); exact HO_124.out) hb); have n2_ := Aside0.mk (blk_below (g := gb136) (o := .cells #[.int .i64 t132, .int .i64 t133, .int .i64 t134] 41 (0, 0)) (by (with_reducible repeat (first | refine blk_drewN ?_ _ | refine blk_drew ?_ | refine blk_alloc ?_ _)); exact BK136.out) hb); have n3_ := Aside0.mk (below_step (by repeat (first | (with_reducible first | exact HB.out | apply below_alloc | apply pw_below_drewN | apply below_drew1 | refine below_set ?_ GE136.out) | exact HB.out)) hb); clear HO_13; clear HO_124; clear BK136; clear HB; have HO_13 := n0_; have HO_124 := n1_; have BK136 := n2_; have HB := n3_; clear n0_ n1_ n2_ n3_; (try clear hb); (try clear hb2); (try clear hk); (try clear hi)))
                                        go_roundg k4
                                        case measure => have := HJ5.out; have := HJ21.out; have := HJ52.out; have := HK4.out; omega
                                        case rel => exact ⟨(t143), (wrap64 (x126_4 + 1)), (by first | rfl | (simp; done) | (simp [*]; done)), (by first | rfl | (simp; done) | (simp [*]; done)), H', ⟨by have := HJ5.out; have := HJ21.out; have := HJ52.out; have := HK4.out; omega⟩, ⟨by (with_reducible repeat (first | apply Kd.R_alloc | apply Kd.R_drewN | apply Kd.R_drew)); exact HO_13.out⟩, ⟨by (with_reducible repeat (first | apply Kd.R_alloc | apply Kd.R_drewN | apply Kd.R_drew)); exact HO_124.out⟩, ⟨by (with_reducible repeat (first | refine blk_drewN ?_ _ | refine blk_drew ?_ | refine blk_alloc ?_ _)); exact BK136.out⟩, ⟨by repeat (first | (with_reducible first | exact HB.out | apply below_alloc | apply pw_below_drewN | apply below_drew1 | refine below_set ?_ GE136.out) | exact HB.out)⟩⟩
                                    · rw [if_neg c71] at H
                                      have c71b0 : (t143 == 0) = false := beq_eq_false_iff_ne.mpr c71
                                      have c71b1 : (t143 != 0) = true := bne_iff_ne.mpr c71
                                      obtain rfl := Option.some.inj H
                                      have p142 : 0 ≤ (x126_4 : Int) := of_decide_eq_true (by first | (with_reducible assumption) | assumption)
                                      have q142 : x126_4 < (t138.length : Int) := of_decide_eq_true (by first | (with_reducible assumption) | assumption)
                                      obtain ⟨ad142, e142, hx142_0⟩ := Kd.at_int (Kd.R_reads' HO_124.out).2.2 x126_4 p142 q142
                                      cases e142
                                      replace p142 := eq_true p142
                                      replace q142 := eq_true q142
                                      have hcz80_0 : wr.cell? ⟨gb136, 0, none⟩ = some (.int .i64 t132) := (blk_cell BK136.out 0).trans rfl
                                      have hcz80_1 : wr.cell? ⟨gb136, 1, none⟩ = some (.int .i64 t133) := (blk_cell BK136.out 1).trans rfl
                                      have hcz80_2 : wr.cell? ⟨gb136, 2, none⟩ = some (.int .i64 t134) := (blk_cell BK136.out 2).trans rfl
                                      have hfz80_0 := blk_frozen BK136.out 0
                                      have hfz80_1 := blk_frozen BK136.out 1
                                      have hfz80_2 := blk_frozen BK136.out 2
                                      go_wp2_with (first | ((with_reducible refine gate_callee (f := 19) rfl ?_); refine goesL_ (some 135) rfl rfl Try.func19 (by kernel_rfl) rfl #[.agg #[.int .i64 t132, .int .i64 t133, .int .i64 t134], .int .i64 (rd t138 x126_4), .int .i64 t131] rfl (by (try simp only [List.map_toArray, List.map_cons, List.map_nil]); first | done | rfl | (simp only [List.length_drop, List.length_take]; rfl)) ?_; (with_reducible refine (scale_Place.calls k4 t132 t133 t134 (rd t138 x126_4) t131 t143 t144 _ A65.out).mono ?_); rintro e w81 ⟨rfl, hb⟩; refine ⟨_, rfl, ?_⟩; have n0_ := Aside0.mk (Kd.R_below (by (with_reducible repeat (first | apply Kd.R_alloc | apply Kd.R_drewN | apply Kd.R_drew)); exact HO_13.out) hb); have n1_ := Aside0.mk (Kd.R_below (by (with_reducible repeat (first | apply Kd.R_alloc | apply Kd.R_drewN | apply Kd.R_drew)); exact HO_124.out) hb); have n2_ := Aside0.mk (blk_below (g := gb136) (o := .cells #[.int .i64 t132, .int .i64 t133, .int .i64 t134] 41 (0, 0)) (by (with_reducible repeat (first | refine blk_drewN ?_ _ | refine blk_drew ?_ | refine blk_alloc ?_ _)); exact BK136.out) hb); have n3_ := Aside0.mk (below_step (by repeat (first | (with_reducible first | exact HB.out | apply below_alloc | apply pw_below_drewN | apply below_drew1 | refine below_set ?_ GE136.out) | exact HB.out)) hb); clear HO_13; clear HO_124; clear BK136; clear HB; have HO_13 := n0_; have HO_124 := n1_; have BK136 := n2_; have HB := n3_; clear n0_ n1_ n2_ n3_; (try clear hb); (try clear hb2); (try clear hk); (try clear hi)))
                                      go_ret
                                      exact ⟨by first | rfl | (simp [errW_none, errW_some] <;> rfl) | (simp only [← hji17, ← hji18]; first | rfl | (simp [errW_none, errW_some] <;> rfl)) | (simp [*, errW_none, errW_some] <;> rfl), by repeat (first | (with_reducible first | exact HB.out | apply below_alloc | apply pw_below_drewN | apply below_drew1 | refine below_set ?_ GE136.out) | exact HB.out)⟩
                                  · rw [if_neg c70] at H
                                    have c70b0 : (x126_4 == 0) = false := beq_eq_false_iff_ne.mpr c70
                                    have c70b1 : (x126_4 != 0) = true := bne_iff_ne.mpr c70
                                    by_cases c82 : x126_4 = (wrap64 ((t138.length : Int) - 1))
                                    · rw [if_pos c82] at H
                                      have c82b0 : (x126_4 == (wrap64 ((t138.length : Int) - 1))) = true := beq_iff_eq.mpr c82
                                      have c82b1 : (x126_4 != (wrap64 ((t138.length : Int) - 1))) = false := bne_eq_false_iff_eq.mpr c82
                                      clear c82
                                      by_cases c83 : t143 = t131
                                      · rw [if_pos c83] at H
                                        have c83b0 : (t143 == t131) = true := beq_iff_eq.mpr c83
                                        have c83b1 : (t143 != t131) = false := bne_eq_false_iff_eq.mpr c83
                                        clear c83
                                        have H' := Aside0.mk H
                                        clear H
                                        have p142 : 0 ≤ (x126_4 : Int) := of_decide_eq_true (by first | (with_reducible assumption) | assumption)
                                        have q142 : x126_4 < (t138.length : Int) := of_decide_eq_true (by first | (with_reducible assumption) | assumption)
                                        obtain ⟨ad142, e142, hx142_0⟩ := Kd.at_int (Kd.R_reads' HO_124.out).2.2 x126_4 p142 q142
                                        cases e142
                                        replace p142 := eq_true p142
                                        replace q142 := eq_true q142
                                        have hcz84_0 : wr.cell? ⟨gb136, 0, none⟩ = some (.int .i64 t132) := (blk_cell BK136.out 0).trans rfl
                                        have hcz84_1 : wr.cell? ⟨gb136, 1, none⟩ = some (.int .i64 t133) := (blk_cell BK136.out 1).trans rfl
                                        have hcz84_2 : wr.cell? ⟨gb136, 2, none⟩ = some (.int .i64 t134) := (blk_cell BK136.out 2).trans rfl
                                        have hfz84_0 := blk_frozen BK136.out 0
                                        have hfz84_1 := blk_frozen BK136.out 1
                                        have hfz84_2 := blk_frozen BK136.out 2
                                        go_wp2_with (first | ((with_reducible refine gate_callee (f := 19) rfl ?_); refine goesL_ (some 135) rfl rfl Try.func19 (by kernel_rfl) rfl #[.agg #[.int .i64 t132, .int .i64 t133, .int .i64 t134], .int .i64 (rd t138 x126_4), .int .i64 t131] rfl (by (try simp only [List.map_toArray, List.map_cons, List.map_nil]); first | done | rfl | (simp only [List.length_drop, List.length_take]; rfl)) ?_; (with_reducible refine (scale_Place.calls k4 t132 t133 t134 (rd t138 x126_4) t131 t143 t144 _ A65.out).mono ?_); rintro e w85 ⟨rfl, hb⟩; refine ⟨_, rfl, ?_⟩; have n0_ := Aside0.mk (Kd.R_below (by (with_reducible repeat (first | apply Kd.R_alloc | apply Kd.R_drewN | apply Kd.R_drew)); exact HO_13.out) hb); have n1_ := Aside0.mk (Kd.R_below (by (with_reducible repeat (first | apply Kd.R_alloc | apply Kd.R_drewN | apply Kd.R_drew)); exact HO_124.out) hb); have n2_ := Aside0.mk (blk_below (g := gb136) (o := .cells #[.int .i64 t132, .int .i64 t133, .int .i64 t134] 41 (0, 0)) (by (with_reducible repeat (first | refine blk_drewN ?_ _ | refine blk_drew ?_ | refine blk_alloc ?_ _)); exact BK136.out) hb); have n3_ := Aside0.mk (below_step (by repeat (first | (with_reducible first | exact HB.out | apply below_alloc | apply pw_below_drewN | apply below_drew1 | refine below_set ?_ GE136.out) | exact HB.out)) hb); clear HO_13; clear HO_124; clear BK136; clear HB; have HO_13 := n0_; have HO_124 := n1_; have BK136 := n2_; have HB := n3_; clear n0_ n1_ n2_ n3_; (try clear hb); (try clear hb2); (try clear hk); (try clear hi)))
                                        go_roundg k4
                                        case measure => have := HJ5.out; have := HJ21.out; have := HJ52.out; have := HK4.out; omega
                                        case rel => exact ⟨(t143), (wrap64 (x126_4 + 1)), (by first | rfl | (simp; done) | (simp [*]; done)), (by first | rfl | (simp; done) | (simp [*]; done)), H', ⟨by have := HJ5.out; have := HJ21.out; have := HJ52.out; have := HK4.out; omega⟩, ⟨by (with_reducible repeat (first | apply Kd.R_alloc | apply Kd.R_drewN | apply Kd.R_drew)); exact HO_13.out⟩, ⟨by (with_reducible repeat (first | apply Kd.R_alloc | apply Kd.R_drewN | apply Kd.R_drew)); exact HO_124.out⟩, ⟨by (with_reducible repeat (first | refine blk_drewN ?_ _ | refine blk_drew ?_ | refine blk_alloc ?_ _)); exact BK136.out⟩, ⟨by repeat (first | (with_reducible first | exact HB.out | apply below_alloc | apply pw_below_drewN | apply below_drew1 | refine below_set ?_ GE136.out) | exact HB.out)⟩⟩
                                      · rw [if_neg c83] at H
                                        have c83b0 : (t143 == t131) = false := beq_eq_false_iff_ne.mpr c83
                                        have c83b1 : (t143 != t131) = true := bne_iff_ne.mpr c83
                                        obtain rfl := Option.some.inj H
                                        have p142 : 0 ≤ (x126_4 : Int) := of_decide_eq_true (by first | (with_reducible assumption) | assumption)
                                        have q142 : x126_4 < (t138.length : Int) := of_decide_eq_true (by first | (with_reducible assumption) | assumption)
                                        obtain ⟨ad142, e142, hx142_0⟩ := Kd.at_int (Kd.R_reads' HO_124.out).2.2 x126_4 p142 q142
                                        cases e142
                                        replace p142 := eq_true p142
                                        replace q142 := eq_true q142
                                        have hcz86_0 : wr.cell? ⟨gb136, 0, none⟩ = some (.int .i64 t132) := (blk_cell BK136.out 0).trans rfl
                                        have hcz86_1 : wr.cell? ⟨gb136, 1, none⟩ = some (.int .i64 t133) := (blk_cell BK136.out 1).trans rfl
                                        have hcz86_2 : wr.cell? ⟨gb136, 2, none⟩ = some (.int .i64 t134) := (blk_cell BK136.out 2).trans rfl
                                        have hfz86_0 := blk_frozen BK136.out 0
                                        have hfz86_1 := blk_frozen BK136.out 1
                                        have hfz86_2 := blk_frozen BK136.out 2
                                        go_wp2_with (first | ((with_reducible refine gate_callee (f := 19) rfl ?_); refine goesL_ (some 135) rfl rfl Try.func19 (by kernel_rfl) rfl #[.agg #[.int .i64 t132, .int .i64 t133, .int .i64 t134], .int .i64 (rd t138 x126_4), .int .i64 t131] rfl (by (try simp only [List.map_toArray, List.map_cons, List.map_nil]); first | done | rfl | (simp only [List.length_drop, List.length_take]; rfl)) ?_; (with_reducible refine (scale_Place.calls k4 t132 t133 t134 (rd t138 x126_4) t131 t143 t144 _ A65.out).mono ?_); rintro e w87 ⟨rfl, hb⟩; refine ⟨_, rfl, ?_⟩; have n0_ := Aside0.mk (Kd.R_below (by (with_reducible repeat (first | apply Kd.R_alloc | apply Kd.R_drewN | apply Kd.R_drew)); exact HO_13.out) hb); have n1_ := Aside0.mk (Kd.R_below (by (with_reducible repeat (first | apply Kd.R_alloc | apply Kd.R_drewN | apply Kd.R_drew)); exact HO_124.out) hb); have n2_ := Aside0.mk (blk_below (g := gb136) (o := .cells #[.int .i64 t132, .int .i64 t133, .int .i64 t134] 41 (0, 0)) (by (with_reducible repeat (first | refine blk_drewN ?_ _ | refine blk_drew ?_ | refine blk_alloc ?_ _)); exact BK136.out) hb); have n3_ := Aside0.mk (below_step (by repeat (first | (with_reducible first | exact HB.out | apply below_alloc | apply pw_below_drewN | apply below_drew1 | refine below_set ?_ GE136.out) | exact HB.out)) hb); clear HO_13; clear HO_124; clear BK136; clear HB; have HO_13 := n0_; have HO_124 := n1_; have BK136 := n2_; have HB := n3_; clear n0_ n1_ n2_ n3_; (try clear hb); (try clear hb2); (try clear hk); (try clear hi)))
                                        go_ret
                                        exact ⟨by first | rfl | (simp [errW_none, errW_some] <;> rfl) | (simp only [← hji17, ← hji18]; first | rfl | (simp [errW_none, errW_some] <;> rfl)) | (simp [*, errW_none, errW_some] <;> rfl), by repeat (first | (with_reducible first | exact HB.out | apply below_alloc | apply pw_below_drewN | apply below_drew1 | refine below_set ?_ GE136.out) | exact HB.out)⟩
                                    · rw [if_neg c82] at H
                                      have c82b0 : (x126_4 == (wrap64 ((t138.length : Int) - 1))) = false := beq_eq_false_iff_ne.mpr c82
                                      have c82b1 : (x126_4 != (wrap64 ((t138.length : Int) - 1))) = true := bne_iff_ne.mpr c82
                                      have H' := Aside0.mk H
                                      clear H
                                      have p142 : 0 ≤ (x126_4 : Int) := of_decide_eq_true (by first | (with_reducible assumption) | assumption)
                                      have q142 : x126_4 < (t138.length : Int) := of_decide_eq_true (by first | (with_reducible assumption) | assumption)
                                      obtain ⟨ad142, e142, hx142_0⟩ := Kd.at_int (Kd.R_reads' HO_124.out).2.2 x126_4 p142 q142
                                      cases e142
                                      replace p142 := eq_true p142
                                      replace q142 := eq_true q142
                                      have hcz88_0 : wr.cell? ⟨gb136, 0, none⟩ = some (.int .i64 t132) := (blk_cell BK136.out 0).trans rfl
                                      have hcz88_1 : wr.cell? ⟨gb136, 1, none⟩ = some (.int .i64 t133) := (blk_cell BK136.out 1).trans rfl
                                      have hcz88_2 : wr.cell? ⟨gb136, 2, none⟩ = some (.int .i64 t134) := (blk_cell BK136.out 2).trans rfl
                                      have hfz88_0 := blk_frozen BK136.out 0
                                      have hfz88_1 := blk_frozen BK136.out 1
                                      have hfz88_2 := blk_frozen BK136.out 2
                                      go_wp2_with (first | ((with_reducible refine gate_callee (f := 19) rfl ?_); refine goesL_ (some 135) rfl rfl Try.func19 (by kernel_rfl) rfl #[.agg #[.int .i64 t132, .int .i64 t133, .int .i64 t134], .int .i64 (rd t138 x126_4), .int .i64 t131] rfl (by (try simp only [List.map_toArray, List.map_cons, List.map_nil]); first | done | rfl | (simp only [List.length_drop, List.length_take]; rfl)) ?_; (with_reducible refine (scale_Place.calls k4 t132 t133 t134 (rd t138 x126_4) t131 t143 t144 _ A65.out).mono ?_); rintro e w89 ⟨rfl, hb⟩; refine ⟨_, rfl, ?_⟩; have n0_ := Aside0.mk (Kd.R_below (by (with_reducible repeat (first | apply Kd.R_alloc | apply Kd.R_drewN | apply Kd.R_drew)); exact HO_13.out) hb); have n1_ := Aside0.mk (Kd.R_below (by (with_reducible repeat (first | apply Kd.R_alloc | apply Kd.R_drewN | apply Kd.R_drew)); exact HO_124.out) hb); have n2_ := Aside0.mk (blk_below (g := gb136) (o := .cells #[.int .i64 t132, .int .i64 t133, .int .i64 t134] 41 (0, 0)) (by (with_reducible repeat (first | refine blk_drewN ?_ _ | refine blk_drew ?_ | refine blk_alloc ?_ _)); exact BK136.out) hb); have n3_ := Aside0.mk (below_step (by repeat (first | (with_reducible first | exact HB.out | apply below_alloc | apply pw_below_drewN | apply below_drew1 | refine below_set ?_ GE136.out) | exact HB.out)) hb); clear HO_13; clear HO_124; clear BK136; clear HB; have HO_13 := n0_; have HO_124 := n1_; have BK136 := n2_; have HB := n3_; clear n0_ n1_ n2_ n3_; (try clear hb); (try clear hb2); (try clear hk); (try clear hi)))
                                      go_roundg k4
                                      case measure => have := HJ5.out; have := HJ21.out; have := HJ52.out; have := HK4.out; omega
                                      case rel => exact ⟨(t143), (wrap64 (x126_4 + 1)), (by first | rfl | (simp; done) | (simp [*]; done)), (by first | rfl | (simp; done) | (simp [*]; done)), H', ⟨by have := HJ5.out; have := HJ21.out; have := HJ52.out; have := HK4.out; omega⟩, ⟨by (with_reducible repeat (first | apply Kd.R_alloc | apply Kd.R_drewN | apply Kd.R_drew)); exact HO_13.out⟩, ⟨by (with_reducible repeat (first | apply Kd.R_alloc | apply Kd.R_drewN | apply Kd.R_drew)); exact HO_124.out⟩, ⟨by (with_reducible repeat (first | refine blk_drewN ?_ _ | refine blk_drew ?_ | refine blk_alloc ?_ _)); exact BK136.out⟩, ⟨by repeat (first | (with_reducible first | exact HB.out | apply below_alloc | apply pw_below_drewN | apply below_drew1 | refine below_set ?_ GE136.out) | exact HB.out)⟩⟩
                              · rw [if_neg c66] at H
                                have c66b0 : (t144 == 0) = false := beq_eq_false_iff_ne.mpr c66
                                have c66b1 : (t144 != 0) = true := bne_iff_ne.mpr c66
                                obtain rfl := Option.some.inj H
                                have p142 : 0 ≤ (x126_4 : Int) := of_decide_eq_true (by first | (with_reducible assumption) | assumption)
                                have q142 : x126_4 < (t138.length : Int) := of_decide_eq_true (by first | (with_reducible assumption) | assumption)
                                obtain ⟨ad142, e142, hx142_0⟩ := Kd.at_int (Kd.R_reads' HO_124.out).2.2 x126_4 p142 q142
                                cases e142
                                replace p142 := eq_true p142
                                replace q142 := eq_true q142
                                have hcz90_0 : wr.cell? ⟨gb136, 0, none⟩ = some (.int .i64 t132) := (blk_cell BK136.out 0).trans rfl
                                have hcz90_1 : wr.cell? ⟨gb136, 1, none⟩ = some (.int .i64 t133) := (blk_cell BK136.out 1).trans rfl
                                have hcz90_2 : wr.cell? ⟨gb136, 2, none⟩ = some (.int .i64 t134) := (blk_cell BK136.out 2).trans rfl
                                have hfz90_0 := blk_frozen BK136.out 0
                                have hfz90_1 := blk_frozen BK136.out 1
                                have hfz90_2 := blk_frozen BK136.out 2
                                go_wp2_with (first | ((with_reducible refine gate_callee (f := 19) rfl ?_); refine goesL_ (some 135) rfl rfl Try.func19 (by kernel_rfl) rfl #[.agg #[.int .i64 t132, .int .i64 t133, .int .i64 t134], .int .i64 (rd t138 x126_4), .int .i64 t131] rfl (by (try simp only [List.map_toArray, List.map_cons, List.map_nil]); first | done | rfl | (simp only [List.length_drop, List.length_take]; rfl)) ?_; (with_reducible refine (scale_Place.calls k4 t132 t133 t134 (rd t138 x126_4) t131 t143 t144 _ A65.out).mono ?_); rintro e w91 ⟨rfl, hb⟩; refine ⟨_, rfl, ?_⟩; have n0_ := Aside0.mk (Kd.R_below (by (with_reducible repeat (first | apply Kd.R_alloc | apply Kd.R_drewN | apply Kd.R_drew)); exact HO_13.out) hb); have n1_ := Aside0.mk (Kd.R_below (by (with_reducible repeat (first | apply Kd.R_alloc | apply Kd.R_drewN | apply Kd.R_drew)); exact HO_124.out) hb); have n2_ := Aside0.mk (blk_below (g := gb136) (o := .cells #[.int .i64 t132, .int .i64 t133, .int .i64 t134] 41 (0, 0)) (by (with_reducible repeat (first | refine blk_drewN ?_ _ | refine blk_drew ?_ | refine blk_alloc ?_ _)); exact BK136.out) hb); have n3_ := Aside0.mk (below_step (by repeat (first | (with_reducible first | exact HB.out | apply below_alloc | apply pw_below_drewN | apply below_drew1 | refine below_set ?_ GE136.out) | exact HB.out)) hb); clear HO_13; clear HO_124; clear BK136; clear HB; have HO_13 := n0_; have HO_124 := n1_; have BK136 := n2_; have HB := n3_; clear n0_ n1_ n2_ n3_; (try clear hb); (try clear hb2); (try clear hk); (try clear hi)))
                                go_ret
                                exact ⟨by first | rfl | (simp [errW_none, errW_some] <;> rfl) | (simp only [← hji17, ← hji18]; first | rfl | (simp [errW_none, errW_some] <;> rfl)) | (simp [*, errW_none, errW_some] <;> rfl), by repeat (first | (with_reducible first | exact HB.out | apply below_alloc | apply pw_below_drewN | apply below_drew1 | refine below_set ?_ GE136.out) | exact HB.out)⟩
                            · rw [if_neg c64] at H
                              exact absurd H (by simp)
                          · rw [if_neg c63] at H
                            exact absurd H (by simp)
                        · rw [if_neg c62] at H
                          have c62b0 : decide (x126_4 < (t138.length : Int)) = false := decide_eq_false c62
                          clear c62
                          obtain rfl := Option.some.inj H
                          go_wp2
                          go_ret
                          exact ⟨by first | rfl | (simp [errW_none, errW_some] <;> rfl) | (simp only [← hji17, ← hji18]; first | rfl | (simp [errW_none, errW_some] <;> rfl)) | (simp [*, errW_none, errW_some] <;> rfl), by repeat (first | (with_reducible first | exact HB.out | apply below_alloc | apply pw_below_drewN | apply below_drew1 | refine below_set ?_ GE136.out) | exact HB.out)⟩

/-- THE ONE PURE STATEMENT of chancerykeep3_ScaleContainsValues: yours. -/
def chancerykeep3_ScaleContainsValues.Pure : Prop := ∀ (a0 : Int) (a1 : Int) (a2 : Int) (a3 : Int), (Lit.int .i64 a0).wf = true → (Lit.int .i64 a1).wf = true → (Lit.int .i64 a2).wf = true → (Lit.int .i64 a3).wf = true → ∃ k, chancerykeep3_ScaleContainsValues.f k a0 a1 a2 a3 = some true
theorem chancerykeep3_ScaleContainsValues.walk (P : chancerykeep3_ScaleContainsValues.Pure) (a0 : Int) (a1 : Int) (a2 : Int) (a3 : Int) (w : World) (w0 : (Lit.int .i64 a0).wf = true) (w1 : (Lit.int .i64 a1).wf = true) (w2 : (Lit.int .i64 a2).wf = true) (w3 : (Lit.int .i64 a3).wf = true) :
    Calls Try.prog 5 #[.int .i64 a0, .int .i64 a1, .int .i64 a2, .int .i64 a3] w fun e w' => e = .returned (.bool true) ∧ Below w.heap.size w w' := by
  obtain ⟨k, h⟩ := P a0 a1 a2 a3 w0 w1 w2 w3
  refine (chancerykeep3_ScaleContainsValues.calls k a0 a1 a2 a3 true w h).mono ?_
  rintro e w' ⟨rfl, hd⟩
  exact ⟨rfl, hd⟩

end Go.Proofs.Ytohaoaiffneamaa.PScaleContainsValues
