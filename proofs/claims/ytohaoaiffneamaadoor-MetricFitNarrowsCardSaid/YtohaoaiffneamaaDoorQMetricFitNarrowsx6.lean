-- Written by a program of this session (myprint.py) for this claim: contracts of the functions that the law reaches. Not trusted: Lean checks it.
import Derived.Test.YtohaoaiffneamaaDoorQMetricFitNarrowsx0
import Derived.Test.YtohaoaiffneamaaDoorQMetricFitNarrowsx1
import Derived.Test.YtohaoaiffneamaaDoorQMetricFitNarrowsx4
import Derived.Test.YtohaoaiffneamaaDoorQMetricFitNarrowsx5
namespace Go.Proofs.YtohaoaiffneamaaDoor.QMetricFitNarrows
open Go.RowKit Go.Proofs.YtohaoaiffneamaaDoorW.PrintWords Go.Proofs.YtohaoaiffneamaaDoorW.PrintLast Go.Proofs.YtohaoaiffneamaaDoorW.PrintMore
attribute [local go_sem] cell_set2 cell_set2d max2_int min2_int max_two min_two max_three min_three max_four min_four   -- for this text's walks alone
set_option linter.unusedVariables false
set_option linter.unusedSimpArgs false

/-! ### ck_MetricFitNarrows: function 7 -/
mutual
def ck_MetricFitNarrows.j0 : Nat → List Int → Int → Int → Int → Bool → List (List (S98)) → List (List (S98)) → Int → Bool → Bool → Option (Bool)
 | 0, _, _, _, _, _, _, _, _, _, _ => none
 | k + 1, x0, x2, x9, x10, x73, x900, x901, x157000, x157001, x157002 => if x73 = true then (some false) else (if 0 ≤ x9 then (if x9 ≤ (x0.length : Int) then ((metric_Width.f k (x0.take (x9 : Int).toNat) x157000 x157001 x157002 x900 x901).bind fun bt176 => (if bt176.2 = 0 then (ck_MetricFitNarrows.j1 k x0 x2 x9 (bt176.1 != x10) x900 x901 x157000 x157001 x157002) else (ck_MetricFitNarrows.j1 k x0 x2 x9 true x900 x901 x157000 x157001 x157002))) else (none)) else (none))
def ck_MetricFitNarrows.j1 : Nat → List Int → Int → Int → Bool → List (List (S98)) → List (List (S98)) → Int → Bool → Bool → Option (Bool)
 | 0, _, _, _, _, _, _, _, _, _ => none
 | k + 1, x0, x2, x9, x88, x900, x901, x157000, x157001, x157002 => if x88 = true then (some false) else (ck_MetricFitNarrows.l0 k x0 x2 x9 (wrap64 (x9 + 1)) x900 x901 x157000 x157001 x157002)
def ck_MetricFitNarrows.l0 : Nat → List Int → Int → Int → Int → List (List (S98)) → List (List (S98)) → Int → Bool → Bool → Option (Bool)
 | 0, _, _, _, _, _, _, _, _, _ => none
 | k + 1, x0, x2, x9, x17, x900, x901, x157000, x157001, x157002 => if x17 < (x0.length : Int) then (if 0 ≤ x17 then ((metric_Mark.f k (rd x0 x17) x900).bind fun t179 => (if t179 = true then (ck_MetricFitNarrows.l0 k x0 x2 x9 (wrap64 (x17 + 1)) x900 x901 x157000 x157001 x157002) else (if x9 = (x0.length : Int) then (some true) else (if x17 ≤ (x0.length : Int) then ((metric_Width.f k (x0.take (x17 : Int).toNat) x157000 x157001 x157002 x900 x901).bind fun bt184 => (some (decide (bt184.1 > x2)))) else (none))))) else (none)) else (if x9 = (x0.length : Int) then (some true) else (if 0 ≤ x17 then (if x17 ≤ (x0.length : Int) then ((metric_Width.f k (x0.take (x17 : Int).toNat) x157000 x157001 x157002 x900 x901).bind fun bt190 => (some (decide (bt190.1 > x2)))) else (none)) else (none)))
end
def ck_MetricFitNarrows.f (k : Nat) (l0 : List Int) (a1_0 : Int) (a1_1 : Bool) (a1_2 : Bool) (a2 : Int) (a3 : Int) (l4 : List (List (S98))) (l5 : List (List (S98))) : Option (Bool) := (ck_metrics.f k l4 l5).bind fun t157 => (if t157 = true then ((ck_chars.f k l0 60).bind fun t158 => ((ck_look.f a1_0 a1_1 a1_2).bind fun bt161 => ((ck_within.f a2 0 200000).bind fun t164 => ((ck_within.f a3 0 5000).bind fun t165 => ((metric_Fit.f k t158 bt161.1 bt161.2.1 bt161.2.2 t164 l4 l5).bind fun bt166 => ((metric_Fit.f k t158 bt161.1 bt161.2.1 bt161.2.2 (wrap64 (t164 + t165)) l4 l5).bind fun bt169 => (if bt166.2.2 = 0 then (if bt169.2.2 = 0 then (if bt166.1 < 0 then (ck_MetricFitNarrows.j0 k t158 t164 bt166.1 bt166.2.1 true l4 l5 bt161.1 bt161.2.1 bt161.2.2) else (if bt166.1 > (t158.length : Int) then (ck_MetricFitNarrows.j0 k t158 t164 bt166.1 bt166.2.1 true l4 l5 bt161.1 bt161.2.1 bt161.2.2) else (if bt169.1 < bt166.1 then (ck_MetricFitNarrows.j0 k t158 t164 bt166.1 bt166.2.1 true l4 l5 bt161.1 bt161.2.1 bt161.2.2) else (ck_MetricFitNarrows.j0 k t158 t164 bt166.1 bt166.2.1 (decide (bt166.2.1 > t164)) l4 l5 bt161.1 bt161.2.1 bt161.2.2)))) else (ck_MetricFitNarrows.j0 k t158 t164 bt166.1 bt166.2.1 true l4 l5 bt161.1 bt161.2.1 bt161.2.2)) else (ck_MetricFitNarrows.j0 k t158 t164 bt166.1 bt166.2.1 true l4 l5 bt161.1 bt161.2.1 bt161.2.2)))))))) else (some false))
theorem ck_MetricFitNarrows.mono_l : ∀ k, (∀ y0 y1 y2 y3 y4 y5 y6 y7 y8 y9, LeO (ck_MetricFitNarrows.j0 k y0 y1 y2 y3 y4 y5 y6 y7 y8 y9) (ck_MetricFitNarrows.j0 (k + 1) y0 y1 y2 y3 y4 y5 y6 y7 y8 y9)) ∧ (∀ y0 y1 y2 y3 y4 y5 y6 y7 y8, LeO (ck_MetricFitNarrows.j1 k y0 y1 y2 y3 y4 y5 y6 y7 y8) (ck_MetricFitNarrows.j1 (k + 1) y0 y1 y2 y3 y4 y5 y6 y7 y8)) ∧ (∀ y0 y1 y2 y3 y4 y5 y6 y7 y8, LeO (ck_MetricFitNarrows.l0 k y0 y1 y2 y3 y4 y5 y6 y7 y8) (ck_MetricFitNarrows.l0 (k + 1) y0 y1 y2 y3 y4 y5 y6 y7 y8))
 | 0 => ⟨fun _ _ _ _ _ _ _ _ _ _ r h => by simp [ck_MetricFitNarrows.j0] at h, fun _ _ _ _ _ _ _ _ _ r h => by simp [ck_MetricFitNarrows.j1] at h, fun _ _ _ _ _ _ _ _ _ r h => by simp [ck_MetricFitNarrows.l0] at h⟩
 | k + 1 => by
  obtain ⟨ih0, ih1, ih2⟩ := ck_MetricFitNarrows.mono_l k
  refine ⟨?_, ?_, ?_⟩
  ·intro y0 y1 y2 y3 y4 y5 y6 y7 y8 y9
   unfold ck_MetricFitNarrows.j0
   repeat' first
   | (with_reducible exact ih0 _ _ _ _ _ _ _ _ _ _)
   | (with_reducible exact ih1 _ _ _ _ _ _ _ _ _)
   | (with_reducible exact ih2 _ _ _ _ _ _ _ _ _)
   | (with_reducible exact ck_chars.mono _ _ _)
   | (with_reducible exact ck_metrics.mono _ _ _)
   | (with_reducible exact metric_Fit.mono _ _ _ _ _ _ _ _)
   | (with_reducible exact metric_Mark.mono _ _ _)
   | (with_reducible exact metric_Width.mono _ _ _ _ _ _ _)
   | (with_reducible exact LeO.refl _)
   | (with_reducible exact LeO.none _)
   | (with_reducible refine LeO.ite ?_ ?_)
   | (with_reducible refine LeO.bind ?_ (fun _ => ?_))
   | exact ih0 _ _ _ _ _ _ _ _ _ _
   | exact ih1 _ _ _ _ _ _ _ _ _
   | exact ih2 _ _ _ _ _ _ _ _ _
   | exact ck_chars.mono _ _ _
   | exact ck_metrics.mono _ _ _
   | exact metric_Fit.mono _ _ _ _ _ _ _ _
   | exact metric_Mark.mono _ _ _
   | exact metric_Width.mono _ _ _ _ _ _ _
   | exact LeO.none _
   | refine LeO.ite ?_ ?_
   | refine LeO.bind ?_ (fun _ => ?_)
  ·intro y0 y1 y2 y3 y4 y5 y6 y7 y8
   unfold ck_MetricFitNarrows.j1
   repeat' first
   | (with_reducible exact ih0 _ _ _ _ _ _ _ _ _ _)
   | (with_reducible exact ih1 _ _ _ _ _ _ _ _ _)
   | (with_reducible exact ih2 _ _ _ _ _ _ _ _ _)
   | (with_reducible exact ck_chars.mono _ _ _)
   | (with_reducible exact ck_metrics.mono _ _ _)
   | (with_reducible exact metric_Fit.mono _ _ _ _ _ _ _ _)
   | (with_reducible exact metric_Mark.mono _ _ _)
   | (with_reducible exact metric_Width.mono _ _ _ _ _ _ _)
   | (with_reducible exact LeO.refl _)
   | (with_reducible exact LeO.none _)
   | (with_reducible refine LeO.ite ?_ ?_)
   | (with_reducible refine LeO.bind ?_ (fun _ => ?_))
   | exact ih0 _ _ _ _ _ _ _ _ _ _
   | exact ih1 _ _ _ _ _ _ _ _ _
   | exact ih2 _ _ _ _ _ _ _ _ _
   | exact ck_chars.mono _ _ _
   | exact ck_metrics.mono _ _ _
   | exact metric_Fit.mono _ _ _ _ _ _ _ _
   | exact metric_Mark.mono _ _ _
   | exact metric_Width.mono _ _ _ _ _ _ _
   | exact LeO.none _
   | refine LeO.ite ?_ ?_
   | refine LeO.bind ?_ (fun _ => ?_)
  ·intro y0 y1 y2 y3 y4 y5 y6 y7 y8
   unfold ck_MetricFitNarrows.l0
   repeat' first
   | (with_reducible exact ih0 _ _ _ _ _ _ _ _ _ _)
   | (with_reducible exact ih1 _ _ _ _ _ _ _ _ _)
   | (with_reducible exact ih2 _ _ _ _ _ _ _ _ _)
   | (with_reducible exact ck_chars.mono _ _ _)
   | (with_reducible exact ck_metrics.mono _ _ _)
   | (with_reducible exact metric_Fit.mono _ _ _ _ _ _ _ _)
   | (with_reducible exact metric_Mark.mono _ _ _)
   | (with_reducible exact metric_Width.mono _ _ _ _ _ _ _)
   | (with_reducible exact LeO.refl _)
   | (with_reducible exact LeO.none _)
   | (with_reducible refine LeO.ite ?_ ?_)
   | (with_reducible refine LeO.bind ?_ (fun _ => ?_))
   | exact ih0 _ _ _ _ _ _ _ _ _ _
   | exact ih1 _ _ _ _ _ _ _ _ _
   | exact ih2 _ _ _ _ _ _ _ _ _
   | exact ck_chars.mono _ _ _
   | exact ck_metrics.mono _ _ _
   | exact metric_Fit.mono _ _ _ _ _ _ _ _
   | exact metric_Mark.mono _ _ _
   | exact metric_Width.mono _ _ _ _ _ _ _
   | exact LeO.none _
   | refine LeO.ite ?_ ?_
   | refine LeO.bind ?_ (fun _ => ?_)
theorem ck_MetricFitNarrows.mono : ∀ a0 a1 a2 a3 a4 a5 a6 a7 k, LeO (ck_MetricFitNarrows.f k a0 a1 a2 a3 a4 a5 a6 a7) (ck_MetricFitNarrows.f (k + 1) a0 a1 a2 a3 a4 a5 a6 a7) := by
 intro a0 a1 a2 a3 a4 a5 a6 a7 k
 obtain ⟨ih0, ih1, ih2⟩ := ck_MetricFitNarrows.mono_l k
 unfold ck_MetricFitNarrows.f
 repeat' first
   | (with_reducible exact ih0 _ _ _ _ _ _ _ _ _ _)
   | (with_reducible exact ih1 _ _ _ _ _ _ _ _ _)
   | (with_reducible exact ih2 _ _ _ _ _ _ _ _ _)
   | (with_reducible exact ck_chars.mono _ _ _)
   | (with_reducible exact ck_metrics.mono _ _ _)
   | (with_reducible exact metric_Fit.mono _ _ _ _ _ _ _ _)
   | (with_reducible exact metric_Mark.mono _ _ _)
   | (with_reducible exact metric_Width.mono _ _ _ _ _ _ _)
   | (with_reducible exact LeO.refl _)
   | (with_reducible exact LeO.none _)
   | (with_reducible refine LeO.ite ?_ ?_)
   | (with_reducible refine LeO.bind ?_ (fun _ => ?_))
   | exact ih0 _ _ _ _ _ _ _ _ _ _
   | exact ih1 _ _ _ _ _ _ _ _ _
   | exact ih2 _ _ _ _ _ _ _ _ _
   | exact ck_chars.mono _ _ _
   | exact ck_metrics.mono _ _ _
   | exact metric_Fit.mono _ _ _ _ _ _ _ _
   | exact metric_Mark.mono _ _ _
   | exact metric_Width.mono _ _ _ _ _ _ _
   | exact LeO.none _
   | refine LeO.ite ?_ ?_
   | refine LeO.bind ?_ (fun _ => ?_)
def ck_MetricFitNarrows.T9 : Bool × List (List Nat × List Nat) := (true, [([], []), ([], []), ([0, 1], [0, 1]), ([], []), ([2, 3], [2, 3]), ([4], [4]), ([5], [5]), ([5], [5]), ([6, 4, 0, 1, 2, 3, 4, 5, 6], [6]), ([7, 8, 0, 1, 2, 3, 4, 5, 6, 7, 8], [7])])
def ck_MetricFitNarrows.B9 : List Nat := [0, 0, 3, 0, 15, 31, 63, 63, 127, 511]
theorem ck_MetricFitNarrows.tab9 : rtab .any (opsOf Tryd.f7 9) = ck_MetricFitNarrows.T9 := by kernel_rfl
theorem ck_MetricFitNarrows.bits9 : waitsOk ck_MetricFitNarrows.T9.2 ck_MetricFitNarrows.B9 = true := by kernel_rfl
def ck_MetricFitNarrows.T17 : Bool × List (List Nat × List Nat) := (true, [([], []), ([], []), ([0, 1], [0, 1]), ([], []), ([2, 3], [2, 3]), ([4], [4]), ([5], [5]), ([5], [5]), ([6, 4, 0, 1, 2, 3, 4, 5, 6], [6]), ([7, 8, 0, 1, 2, 3, 4, 5, 6, 7, 8], [7])])
def ck_MetricFitNarrows.B17 : List Nat := [0, 0, 3, 0, 15, 31, 63, 63, 127, 511]
theorem ck_MetricFitNarrows.tab17 : rtab .any (opsOf Tryd.f7 17) = ck_MetricFitNarrows.T17 := by kernel_rfl
theorem ck_MetricFitNarrows.bits17 : waitsOk ck_MetricFitNarrows.T17.2 ck_MetricFitNarrows.B17 = true := by kernel_rfl
set_option maxHeartbeats 8000000 in
set_option maxRecDepth 100000 in
theorem ck_MetricFitNarrows.calls (k : Nat) (A0 : Option Addr) (c0 : Nat) (l0 : List Int) (a1_0 : Int) (a1_1 : Bool) (a1_2 : Bool) (a2 : Int) (a3 : Int) (c4 : Nat) (l4 : List (List (S98))) (c5 : Nat) (l5 : List (List (S98))) (r : Bool) (w : World) (hr0 : Kd.C (Kd.int .i64) w A0 l0.length l0) (hc0 : l0.length ≤ c0) (hr4 : Kd.C (Kd.slice 98 k98) w (some ⟨0, 0, none⟩) l4.length l4) (hc4 : l4.length ≤ c4) (hr5 : Kd.C (Kd.slice 98 k98) w (some ⟨1, 0, none⟩) l5.length l5) (hc5 : l5.length ≤ c5) (h : ck_MetricFitNarrows.f k l0 a1_0 a1_1 a1_2 a2 a3 l4 l5 = some r) :
  Calls Tryd.prog 7 #[.slice A0 l0.length c0, .agg #[.int .i64 a1_0, .bool a1_1, .bool a1_2], .int .i64 a2, .int .i64 a3] w fun e w' => e = .returned (.bool r) ∧ Below w.heap.size w w' := by
 have hu56 := Tryd.underlying56
 have HR0 := Aside0.mk hr0
 have HC0 := Aside0.mk hc0
 clear hr0 hc0
 have HR4 := Aside0.mk hr4
 have HC4 := Aside0.mk hc4
 clear hr4 hc4
 have HR5 := Aside0.mk hr5
 have HC5 := Aside0.mk hc5
 clear hr5 hc5
 have HB := Aside0.mk (Below.refl w.heap.size w)
 have H : ((ck_metrics.f k l4 l5).bind fun t157 => (if t157 = true then ((ck_chars.f k l0 60).bind fun t158 => ((ck_look.f a1_0 a1_1 a1_2).bind fun bt161 => ((ck_within.f a2 0 200000).bind fun t164 => ((ck_within.f a3 0 5000).bind fun t165 => ((metric_Fit.f k t158 bt161.1 bt161.2.1 bt161.2.2 t164 l4 l5).bind fun bt166 => ((metric_Fit.f k t158 bt161.1 bt161.2.1 bt161.2.2 (wrap64 (t164 + t165)) l4 l5).bind fun bt169 => (if bt166.2.2 = 0 then (if bt169.2.2 = 0 then (if bt166.1 < 0 then (ck_MetricFitNarrows.j0 k t158 t164 bt166.1 bt166.2.1 true l4 l5 bt161.1 bt161.2.1 bt161.2.2) else (if bt166.1 > (t158.length : Int) then (ck_MetricFitNarrows.j0 k t158 t164 bt166.1 bt166.2.1 true l4 l5 bt161.1 bt161.2.1 bt161.2.2) else (if bt169.1 < bt166.1 then (ck_MetricFitNarrows.j0 k t158 t164 bt166.1 bt166.2.1 true l4 l5 bt161.1 bt161.2.1 bt161.2.2) else (ck_MetricFitNarrows.j0 k t158 t164 bt166.1 bt166.2.1 (decide (bt166.2.1 > t164)) l4 l5 bt161.1 bt161.2.1 bt161.2.2)))) else (ck_MetricFitNarrows.j0 k t158 t164 bt166.1 bt166.2.1 true l4 l5 bt161.1 bt161.2.1 bt161.2.2)) else (ck_MetricFitNarrows.j0 k t158 t164 bt166.1 bt166.2.1 true l4 l5 bt161.1 bt161.2.1 bt161.2.2)))))))) else (some false))) = some r := h
 clear h
 replace H := Option.bind_eq_some_iff.mp H
 obtain ⟨t157, A70, H⟩ := H
 replace H : (if t157 = true then ((ck_chars.f k l0 60).bind fun t158 => ((ck_look.f a1_0 a1_1 a1_2).bind fun bt161 => ((ck_within.f a2 0 200000).bind fun t164 => ((ck_within.f a3 0 5000).bind fun t165 => ((metric_Fit.f k t158 bt161.1 bt161.2.1 bt161.2.2 t164 l4 l5).bind fun bt166 => ((metric_Fit.f k t158 bt161.1 bt161.2.1 bt161.2.2 (wrap64 (t164 + t165)) l4 l5).bind fun bt169 => (if bt166.2.2 = 0 then (if bt169.2.2 = 0 then (if bt166.1 < 0 then (ck_MetricFitNarrows.j0 k t158 t164 bt166.1 bt166.2.1 true l4 l5 bt161.1 bt161.2.1 bt161.2.2) else (if bt166.1 > (t158.length : Int) then (ck_MetricFitNarrows.j0 k t158 t164 bt166.1 bt166.2.1 true l4 l5 bt161.1 bt161.2.1 bt161.2.2) else (if bt169.1 < bt166.1 then (ck_MetricFitNarrows.j0 k t158 t164 bt166.1 bt166.2.1 true l4 l5 bt161.1 bt161.2.1 bt161.2.2) else (ck_MetricFitNarrows.j0 k t158 t164 bt166.1 bt166.2.1 (decide (bt166.2.1 > t164)) l4 l5 bt161.1 bt161.2.1 bt161.2.2)))) else (ck_MetricFitNarrows.j0 k t158 t164 bt166.1 bt166.2.1 true l4 l5 bt161.1 bt161.2.1 bt161.2.2)) else (ck_MetricFitNarrows.j0 k t158 t164 bt166.1 bt166.2.1 true l4 l5 bt161.1 bt161.2.1 bt161.2.2)))))))) else (some false)) = some r := H
 have A7 := Aside0.mk A70
 clear A70
 by_cases c8 : t157 = true
 ·subst c8
  have H1 : ((ck_chars.f k l0 60).bind fun t158 => ((ck_look.f a1_0 a1_1 a1_2).bind fun bt161 => ((ck_within.f a2 0 200000).bind fun t164 => ((ck_within.f a3 0 5000).bind fun t165 => ((metric_Fit.f k t158 bt161.1 bt161.2.1 bt161.2.2 t164 l4 l5).bind fun bt166 => ((metric_Fit.f k t158 bt161.1 bt161.2.1 bt161.2.2 (wrap64 (t164 + t165)) l4 l5).bind fun bt169 => (if bt166.2.2 = 0 then (if bt169.2.2 = 0 then (if bt166.1 < 0 then (ck_MetricFitNarrows.j0 k t158 t164 bt166.1 bt166.2.1 true l4 l5 bt161.1 bt161.2.1 bt161.2.2) else (if bt166.1 > (t158.length : Int) then (ck_MetricFitNarrows.j0 k t158 t164 bt166.1 bt166.2.1 true l4 l5 bt161.1 bt161.2.1 bt161.2.2) else (if bt169.1 < bt166.1 then (ck_MetricFitNarrows.j0 k t158 t164 bt166.1 bt166.2.1 true l4 l5 bt161.1 bt161.2.1 bt161.2.2) else (ck_MetricFitNarrows.j0 k t158 t164 bt166.1 bt166.2.1 (decide (bt166.2.1 > t164)) l4 l5 bt161.1 bt161.2.1 bt161.2.2)))) else (ck_MetricFitNarrows.j0 k t158 t164 bt166.1 bt166.2.1 true l4 l5 bt161.1 bt161.2.1 bt161.2.2)) else (ck_MetricFitNarrows.j0 k t158 t164 bt166.1 bt166.2.1 true l4 l5 bt161.1 bt161.2.1 bt161.2.2)))))))) = some r := by rw [if_pos rfl] at H; exact H
  clear H
  have H := H1
  clear H1
  replace H := Option.bind_eq_some_iff.mp H
  obtain ⟨t158, A90, H⟩ := H
  replace H : ((ck_look.f a1_0 a1_1 a1_2).bind fun bt161 => ((ck_within.f a2 0 200000).bind fun t164 => ((ck_within.f a3 0 5000).bind fun t165 => ((metric_Fit.f k t158 bt161.1 bt161.2.1 bt161.2.2 t164 l4 l5).bind fun bt166 => ((metric_Fit.f k t158 bt161.1 bt161.2.1 bt161.2.2 (wrap64 (t164 + t165)) l4 l5).bind fun bt169 => (if bt166.2.2 = 0 then (if bt169.2.2 = 0 then (if bt166.1 < 0 then (ck_MetricFitNarrows.j0 k t158 t164 bt166.1 bt166.2.1 true l4 l5 bt161.1 bt161.2.1 bt161.2.2) else (if bt166.1 > (t158.length : Int) then (ck_MetricFitNarrows.j0 k t158 t164 bt166.1 bt166.2.1 true l4 l5 bt161.1 bt161.2.1 bt161.2.2) else (if bt169.1 < bt166.1 then (ck_MetricFitNarrows.j0 k t158 t164 bt166.1 bt166.2.1 true l4 l5 bt161.1 bt161.2.1 bt161.2.2) else (ck_MetricFitNarrows.j0 k t158 t164 bt166.1 bt166.2.1 (decide (bt166.2.1 > t164)) l4 l5 bt161.1 bt161.2.1 bt161.2.2)))) else (ck_MetricFitNarrows.j0 k t158 t164 bt166.1 bt166.2.1 true l4 l5 bt161.1 bt161.2.1 bt161.2.2)) else (ck_MetricFitNarrows.j0 k t158 t164 bt166.1 bt166.2.1 true l4 l5 bt161.1 bt161.2.1 bt161.2.2))))))) = some r := H
  have A9 := Aside0.mk A90
  clear A90
  replace H := Option.bind_eq_some_iff.mp H
  obtain ⟨⟨t161, t162, t163⟩, A100, H⟩ := H
  replace H : ((ck_within.f a2 0 200000).bind fun t164 => ((ck_within.f a3 0 5000).bind fun t165 => ((metric_Fit.f k t158 t161 t162 t163 t164 l4 l5).bind fun bt166 => ((metric_Fit.f k t158 t161 t162 t163 (wrap64 (t164 + t165)) l4 l5).bind fun bt169 => (if bt166.2.2 = 0 then (if bt169.2.2 = 0 then (if bt166.1 < 0 then (ck_MetricFitNarrows.j0 k t158 t164 bt166.1 bt166.2.1 true l4 l5 t161 t162 t163) else (if bt166.1 > (t158.length : Int) then (ck_MetricFitNarrows.j0 k t158 t164 bt166.1 bt166.2.1 true l4 l5 t161 t162 t163) else (if bt169.1 < bt166.1 then (ck_MetricFitNarrows.j0 k t158 t164 bt166.1 bt166.2.1 true l4 l5 t161 t162 t163) else (ck_MetricFitNarrows.j0 k t158 t164 bt166.1 bt166.2.1 (decide (bt166.2.1 > t164)) l4 l5 t161 t162 t163)))) else (ck_MetricFitNarrows.j0 k t158 t164 bt166.1 bt166.2.1 true l4 l5 t161 t162 t163)) else (ck_MetricFitNarrows.j0 k t158 t164 bt166.1 bt166.2.1 true l4 l5 t161 t162 t163)))))) = some r := H
  have A10 := Aside0.mk A100
  clear A100
  replace H := Option.bind_eq_some_iff.mp H
  obtain ⟨t164, A110, H⟩ := H
  replace H : ((ck_within.f a3 0 5000).bind fun t165 => ((metric_Fit.f k t158 t161 t162 t163 t164 l4 l5).bind fun bt166 => ((metric_Fit.f k t158 t161 t162 t163 (wrap64 (t164 + t165)) l4 l5).bind fun bt169 => (if bt166.2.2 = 0 then (if bt169.2.2 = 0 then (if bt166.1 < 0 then (ck_MetricFitNarrows.j0 k t158 t164 bt166.1 bt166.2.1 true l4 l5 t161 t162 t163) else (if bt166.1 > (t158.length : Int) then (ck_MetricFitNarrows.j0 k t158 t164 bt166.1 bt166.2.1 true l4 l5 t161 t162 t163) else (if bt169.1 < bt166.1 then (ck_MetricFitNarrows.j0 k t158 t164 bt166.1 bt166.2.1 true l4 l5 t161 t162 t163) else (ck_MetricFitNarrows.j0 k t158 t164 bt166.1 bt166.2.1 (decide (bt166.2.1 > t164)) l4 l5 t161 t162 t163)))) else (ck_MetricFitNarrows.j0 k t158 t164 bt166.1 bt166.2.1 true l4 l5 t161 t162 t163)) else (ck_MetricFitNarrows.j0 k t158 t164 bt166.1 bt166.2.1 true l4 l5 t161 t162 t163))))) = some r := H
  have A11 := Aside0.mk A110
  clear A110
  replace H := Option.bind_eq_some_iff.mp H
  obtain ⟨t165, A120, H⟩ := H
  replace H : ((metric_Fit.f k t158 t161 t162 t163 t164 l4 l5).bind fun bt166 => ((metric_Fit.f k t158 t161 t162 t163 (wrap64 (t164 + t165)) l4 l5).bind fun bt169 => (if bt166.2.2 = 0 then (if bt169.2.2 = 0 then (if bt166.1 < 0 then (ck_MetricFitNarrows.j0 k t158 t164 bt166.1 bt166.2.1 true l4 l5 t161 t162 t163) else (if bt166.1 > (t158.length : Int) then (ck_MetricFitNarrows.j0 k t158 t164 bt166.1 bt166.2.1 true l4 l5 t161 t162 t163) else (if bt169.1 < bt166.1 then (ck_MetricFitNarrows.j0 k t158 t164 bt166.1 bt166.2.1 true l4 l5 t161 t162 t163) else (ck_MetricFitNarrows.j0 k t158 t164 bt166.1 bt166.2.1 (decide (bt166.2.1 > t164)) l4 l5 t161 t162 t163)))) else (ck_MetricFitNarrows.j0 k t158 t164 bt166.1 bt166.2.1 true l4 l5 t161 t162 t163)) else (ck_MetricFitNarrows.j0 k t158 t164 bt166.1 bt166.2.1 true l4 l5 t161 t162 t163)))) = some r := H
  have A12 := Aside0.mk A120
  clear A120
  replace H := Option.bind_eq_some_iff.mp H
  obtain ⟨⟨t166, t167, t168⟩, A130, H⟩ := H
  replace H : ((metric_Fit.f k t158 t161 t162 t163 (wrap64 (t164 + t165)) l4 l5).bind fun bt169 => (if t168 = 0 then (if bt169.2.2 = 0 then (if t166 < 0 then (ck_MetricFitNarrows.j0 k t158 t164 t166 t167 true l4 l5 t161 t162 t163) else (if t166 > (t158.length : Int) then (ck_MetricFitNarrows.j0 k t158 t164 t166 t167 true l4 l5 t161 t162 t163) else (if bt169.1 < t166 then (ck_MetricFitNarrows.j0 k t158 t164 t166 t167 true l4 l5 t161 t162 t163) else (ck_MetricFitNarrows.j0 k t158 t164 t166 t167 (decide (t167 > t164)) l4 l5 t161 t162 t163)))) else (ck_MetricFitNarrows.j0 k t158 t164 t166 t167 true l4 l5 t161 t162 t163)) else (ck_MetricFitNarrows.j0 k t158 t164 t166 t167 true l4 l5 t161 t162 t163))) = some r := H
  have A13 := Aside0.mk A130
  clear A130
  replace H := Option.bind_eq_some_iff.mp H
  obtain ⟨⟨t169, t170, t171⟩, A140, H⟩ := H
  replace H : (if t168 = 0 then (if t171 = 0 then (if t166 < 0 then (ck_MetricFitNarrows.j0 k t158 t164 t166 t167 true l4 l5 t161 t162 t163) else (if t166 > (t158.length : Int) then (ck_MetricFitNarrows.j0 k t158 t164 t166 t167 true l4 l5 t161 t162 t163) else (if t169 < t166 then (ck_MetricFitNarrows.j0 k t158 t164 t166 t167 true l4 l5 t161 t162 t163) else (ck_MetricFitNarrows.j0 k t158 t164 t166 t167 (decide (t167 > t164)) l4 l5 t161 t162 t163)))) else (ck_MetricFitNarrows.j0 k t158 t164 t166 t167 true l4 l5 t161 t162 t163)) else (ck_MetricFitNarrows.j0 k t158 t164 t166 t167 true l4 l5 t161 t162 t163)) = some r := H
  have A14 := Aside0.mk A140
  clear A140
  have HC15 := Aside0.mk H
  clear H
  go_enter Tryd.func7, Tryd.ntmps7
  try go_wp2_with (first | ((with_reducible refine gate_dst (N := 5) rfl ?_); (try (refine gate_guard (by rfl) ?_; dsimp only)); refine box_event ?hg (N := 5) ?hd (cs := #[.int .i64 a1_0, .bool a1_1, .bool a1_2]) (t := 56) ?hr ?_; (case hd => rfl); (case hg => rfl); (case hr => first | (go_simp; done) | (go_simp; rfl)); intro gb156 hg w16 hbox hb; have n0_ := Aside0.mk (below_step (by repeat (first | (with_reducible first | exact HB.out | apply below_alloc | apply pw_below_drewN | apply below_drew1) | exact HB.out)) hb); have n1_ := Aside0.mk (hbox); have n2_ := Aside0.mk ((by rw [hg]; exact (below_size (by repeat (first | (with_reducible first | exact HB.out | apply below_alloc | apply pw_below_drewN | apply below_drew1) | exact HB.out))) : w.heap.size ≤ gb156)); have n3_ := Aside0.mk ((by rw [hg]; exact (below_size (by repeat (first | (with_reducible first | exact HB.out | apply below_alloc | apply pw_below_drewN | apply below_drew1) | exact HB.out))) : w.heap.size ≤ gb156)); clear HB; have HB := n0_; have BK156 := n1_; have GW156 := n2_; have GE156 := n3_; clear n0_ n1_ n2_ n3_; clear hb hbox hg) | ((with_reducible refine gate_callee (f := 20) rfl ?_); refine goesL_ (some 20) rfl rfl Tryd.func20 (by kernel_rfl) rfl #[] rfl (by (try simp only [List.map_toArray, List.map_cons, List.map_nil]); first | done | rfl | (simp only [List.length_drop, List.length_take]; rfl)) ?_; (with_reducible refine (ck_metrics.calls k c4 l4 c5 l5 true _ ?side1 ?side2 ?side3 ?side4 A7.out).mono ?_); (case side1 => repeat (first | exact (Kd.C_below HR4.out HB.out) | (with_reducible refine Kd.C_alloc ?_ _) | (with_reducible refine Kd.C_drewN ?_ _) | (with_reducible refine Kd.C_drew ?_))); (case side2 => exact HC4.out); (case side3 => repeat (first | exact (Kd.C_below HR5.out HB.out) | (with_reducible refine Kd.C_alloc ?_ _) | (with_reducible refine Kd.C_drewN ?_ _) | (with_reducible refine Kd.C_drew ?_))); (case side4 => exact HC5.out); rintro e w17 ⟨rfl, hb⟩; refine ⟨_, rfl, ?_⟩; have n0_ := Aside0.mk (blk_below (g := gb156) (o := .cells #[.int .i64 a1_0, .bool a1_1, .bool a1_2] 56 (0, 0)) (by (with_reducible repeat (first | refine blk_drewN ?_ _ | refine blk_drew ?_ | refine blk_alloc ?_ _)); exact BK156.out) hb); have n1_ := Aside0.mk (below_step (by repeat (first | (with_reducible first | exact HB.out | apply below_alloc | apply pw_below_drewN | apply below_drew1 | refine below_set ?_ GE156.out) | exact HB.out)) hb); clear BK156; clear HB; have BK156 := n0_; have HB := n1_; clear n0_ n1_; (try clear hb); (try clear hb2); (try clear hk); (try clear hi)))
  have n0_ := Aside0.mk (blk_drew BK156.out)
  have n1_ := Aside0.mk (below_drew1 HB.out)
  clear BK156
  clear HB
  have BK156 := n0_
  have HB := n1_
  clear n0_ n1_
  refine start_ (n := 6) (S := fun w' => w'.cell? ⟨gb156, 0, none⟩ = some (.int .i64 a1_0) ∧ w'.cell? ⟨gb156, 1, none⟩ = some (.bool a1_1) ∧ w'.cell? ⟨gb156, 2, none⟩ = some (.bool a1_2)) (ds := [5]) #[false, false, false, false, false, false] (by kernel_rfl) rfl rfl ⟨(blk_cell BK156.out 0).trans rfl, (blk_cell BK156.out 1).trans rfl, (blk_cell BK156.out 2).trans rfl⟩ (fun hHeld => ?_)
  generalize w17.drew = w18 at BK156 HB hHeld ⊢
  refine pure_ (i := 0) (N := some 22) (v := ?_) (a' := ?_) #[true, false, false, false, false, false] rfl rfl (by kernel_rfl) (fun _ _ _ h => h) (Or.inl ⟨by rfl, ?_⟩) ?_ ?_
  rotate_left
  ·intro w'
   go_simp
   with_reducible rfl
  rotate_left
  ·simp only [Act.put, List.setIfInBounds_toArray, List.set_cons_zero, List.set_cons_succ, i64_w, i32_w]
   rfl
  refine take_ (i := 2) (N := some 24) (v := ?_) (a' := ?_) #[true, false, true, false, false, false] rfl rfl (by kernel_rfl) (fun _ _ _ h => h) (Or.inl ⟨by rfl, ?_⟩) hHeld ?_ ?_
  rotate_left
  ·rintro w' ⟨s0, s1, s2⟩
   go_simp
   with_reducible rfl
  rotate_left
  ·simp only [Act.put, List.setIfInBounds_toArray, List.set_cons_zero, List.set_cons_succ, i64_w, i32_w]
   rfl
  refine one_ (i := 1) (N := some 23) #[true, true, true, false, false, false] rfl rfl (by kernel_rfl) (by decide) (fun K hK => ?_)
  refine goes_ Tryd.func9 (by kernel_rfl) rfl #[.slice A0 l0.length c0, .int .i64 60] (by rfl) rfl rfl (by (try simp only [List.map_toArray, List.map_cons, List.map_nil]); first | done | rfl | (simp only [List.length_drop, List.length_take]; rfl)) ?_
  with_reducible refine (ck_chars.calls k _ _ l0 60 t158 _ ?side1 ?side2 A9.out).mono ?_
  (case side1 => repeat (first | exact (Kd.C_below HR0.out HB.out) | (with_reducible refine Kd.C_alloc ?_ _) | (with_reducible refine Kd.C_drewN ?_ _) | (with_reducible refine Kd.C_drew ?_)))
  (case side2 => exact HC0.out)
  rintro e w19 ⟨v159, rfl, ho0, hb⟩
  refine ⟨_, rfl, ?_⟩
  have n0_ := Aside0.mk (Kd.R_lower ho0 (below_size (by repeat (first | (with_reducible first | exact HB.out | apply below_alloc | apply pw_below_drewN | apply below_drew1 | refine below_set ?_ GE156.out) | exact HB.out))))
  have n1_ := Aside0.mk (blk_below (g := gb156) (o := .cells #[.int .i64 a1_0, .bool a1_1, .bool a1_2] 56 (0, 0)) (by (with_reducible repeat (first | refine blk_drewN ?_ _ | refine blk_drew ?_ | refine blk_alloc ?_ _)); exact BK156.out) hb)
  have n2_ := Aside0.mk (below_step (by repeat (first | (with_reducible first | exact HB.out | apply below_alloc | apply pw_below_drewN | apply below_drew1 | refine below_set ?_ GE156.out) | exact HB.out)) hb)
  clear BK156
  clear HB
  have HO160 := n0_
  have BK156 := n1_
  have HB := n2_
  clear n0_ n1_ n2_
  (try clear hb)
  (try clear hb2)
  (try clear hk)
  (try clear hi)
  (try clear ho0)
  refine hK.out _ _ ⟨(blk_cell BK156.out 0).trans rfl, (blk_cell BK156.out 1).trans rfl, (blk_cell BK156.out 2).trans rfl⟩ (fun hHeld => ?_)
  clear hK K
  refine norm_ (a' := ?_) ?_ ?_
  rotate_left
  ·show Act.put _ (some 23) _ = _
   simp only [Act.put, List.setIfInBounds_toArray, List.set_cons_zero, List.set_cons_succ, i64_w, i32_w]
   rfl
  refine one_ (i := 3) (N := some 25) #[true, true, true, true, false, false] rfl rfl (by kernel_rfl) (by decide) (fun K hK => ?_)
  refine goes_ Tryd.func21 (by kernel_rfl) rfl #[.agg #[.int .i64 a1_0, .bool a1_1, .bool a1_2]] (by rfl) rfl rfl (by (try simp only [List.map_toArray, List.map_cons, List.map_nil]); first | done | rfl | (simp only [List.length_drop, List.length_take]; rfl)) ?_
  with_reducible refine (ck_look.calls a1_0 a1_1 a1_2 t161 t162 t163 _ A10.out).mono ?_
  rintro e w20 ⟨rfl, hb⟩
  refine ⟨_, rfl, ?_⟩
  have n0_ := Aside0.mk (Kd.R_below (by (with_reducible repeat (first | apply Kd.R_alloc | apply Kd.R_drewN | apply Kd.R_drew)); exact HO160.out) hb)
  have n1_ := Aside0.mk (blk_below (g := gb156) (o := .cells #[.int .i64 a1_0, .bool a1_1, .bool a1_2] 56 (0, 0)) (by (with_reducible repeat (first | refine blk_drewN ?_ _ | refine blk_drew ?_ | refine blk_alloc ?_ _)); exact BK156.out) hb)
  have n2_ := Aside0.mk (below_step (by repeat (first | (with_reducible first | exact HB.out | apply below_alloc | apply pw_below_drewN | apply below_drew1 | refine below_set ?_ GE156.out) | exact HB.out)) hb)
  clear HO160
  clear BK156
  clear HB
  have HO160 := n0_
  have BK156 := n1_
  have HB := n2_
  clear n0_ n1_ n2_
  (try clear hb)
  (try clear hb2)
  (try clear hk)
  (try clear hi)
  refine hK.out _ _ ⟨(blk_cell BK156.out 0).trans rfl, (blk_cell BK156.out 1).trans rfl, (blk_cell BK156.out 2).trans rfl⟩ (fun hHeld => ?_)
  clear hK K
  refine norm_ (a' := ?_) ?_ ?_
  rotate_left
  ·show Act.put _ (some 25) _ = _
   simp only [Act.put, List.setIfInBounds_toArray, List.set_cons_zero, List.set_cons_succ, i64_w, i32_w]
   rfl
  refine pure_ (i := 4) (N := some 0) (v := ?_) (a' := ?_) #[true, true, true, true, true, false] rfl rfl (by kernel_rfl) (fun _ _ _ h => h) (Or.inl ⟨by rfl, ?_⟩) ?_ ?_
  rotate_left
  ·intro w'
   go_simp
   with_reducible rfl
  rotate_left
  ·simp only [Act.put, List.setIfInBounds_toArray, List.set_cons_zero, List.set_cons_succ, i64_w, i32_w]
   rfl
  refine last_ (i := 5) (N := none) #[true, true, true, true, true, true] rfl rfl (by kernel_rfl) (by decide) (fun K hK => ?_)
  have hs21 : w20.cell? ⟨gb156, 0, none⟩ = some (.int .i64 a1_0) := (blk_cell BK156.out 0).trans rfl
  have hfs21 := blk_frozen BK156.out 0
  have hs22 : w20.cell? ⟨gb156, 1, none⟩ = some (.bool a1_1) := (blk_cell BK156.out 1).trans rfl
  have hfs22 := blk_frozen BK156.out 1
  have hs23 : w20.cell? ⟨gb156, 2, none⟩ = some (.bool a1_2) := (blk_cell BK156.out 2).trans rfl
  have hfs23 := blk_frozen BK156.out 2
  refine skip_ (w1 := ?_) (by rfl) rfl ?_ ?_
  rotate_left
  ·go_simp
   rfl
  refine hK.out _ _ ?_
  clear hK K
  refine done_ (by kernel_rfl) ?_
  go_upto_region 7 with (first | ((with_reducible refine gate_callee (f := 13) rfl ?_); refine goesL_ (some 27) rfl rfl Tryd.func13 (by kernel_rfl) rfl #[.int .i64 a2, .int .i64 0, .int .i64 200000] rfl (by (try simp only [List.map_toArray, List.map_cons, List.map_nil]); first | done | rfl | (simp only [List.length_drop, List.length_take]; rfl)) ?_; (with_reducible refine (ck_within.calls a2 0 200000 t164 _ A11.out).mono ?_); rintro e w' ⟨rfl, ⟨nd, rfl⟩⟩; refine ⟨_, rfl, ?_⟩) | ((with_reducible refine gate_callee (f := 13) rfl ?_); refine goesL_ (some 29) rfl rfl Tryd.func13 (by kernel_rfl) rfl #[.int .i64 a3, .int .i64 0, .int .i64 5000] rfl (by (try simp only [List.map_toArray, List.map_cons, List.map_nil]); first | done | rfl | (simp only [List.length_drop, List.length_take]; rfl)) ?_; (with_reducible refine (ck_within.calls a3 0 5000 t165 _ A12.out).mono ?_); rintro e w' ⟨rfl, ⟨nd, rfl⟩⟩; refine ⟨_, rfl, ?_⟩; have hcz24_0 : w20.cell? ⟨gb156, 0, none⟩ = some (.int .i64 a1_0) := (blk_cell BK156.out 0).trans rfl; have hcz24_1 : w20.cell? ⟨gb156, 1, none⟩ = some (.bool a1_1) := (blk_cell BK156.out 1).trans rfl; have hcz24_2 : w20.cell? ⟨gb156, 2, none⟩ = some (.bool a1_2) := (blk_cell BK156.out 2).trans rfl; have hfz24_0 := blk_frozen BK156.out 0; have hfz24_1 := blk_frozen BK156.out 1; have hfz24_2 := blk_frozen BK156.out 2; obtain ⟨Ao25, co25, eo25⟩ := Kd.R_slice HO160.out; subst eo25) | ((with_reducible refine gate_callee (f := 22) rfl ?_); refine goesL_ (some 34) rfl rfl Tryd.func22 (by kernel_rfl) rfl #[.slice Ao25 t158.length co25, .agg #[.int .i64 t161, .bool t162, .bool t163], .int .i64 t164] rfl (by (try simp only [List.map_toArray, List.map_cons, List.map_nil]); first | done | rfl | (simp only [List.length_drop, List.length_take]; rfl)) ?_; (with_reducible refine (metric_Fit.calls k _ _ t158 t161 t162 t163 t164 c4 l4 c5 l5 t166 t167 t168 _ ?side1 ?side2 ?side3 ?side4 ?side5 ?side6 A13.out).mono ?_); (case side1 => refine (Kd.R_reads' (e := 3) (base := w.heap.size) (ok := fun k_ => True) (n := t158.length) (c := co25) ?_).2.2; exact (by (with_reducible repeat (first | apply Kd.R_alloc | apply Kd.R_drewN | apply Kd.R_drew)); exact (Kd.R_mono (Kd.R_far (p := ⟨gb156, 2, none⟩) (Kd.R_far (p := ⟨gb156, 1, none⟩) (Kd.R_far (p := ⟨gb156, 0, none⟩) (Kd.R_types HO160.out BK156.out (by decide)) (fun _ hk => hk.2) (.int .i64 t161)) (fun _ hk => hk.2) (.bool t162)) (fun _ hk => hk.2) (.bool t163)) (fun _ h_ => h_.1)))); (case side2 => exact (Kd.R_reads' HO160.out).2.1); (case side3 => exact Kd.C_below HR4.out (by repeat (first | (with_reducible first | exact HB.out | apply below_alloc | apply pw_below_drewN | apply below_drew1 | refine below_set ?_ GE156.out) | exact HB.out))); (case side4 => exact HC4.out); (case side5 => exact Kd.C_below HR5.out (by repeat (first | (with_reducible first | exact HB.out | apply below_alloc | apply pw_below_drewN | apply below_drew1 | refine below_set ?_ GE156.out) | exact HB.out))); (case side6 => exact HC5.out); rintro e w26 ⟨rfl, hb⟩; refine ⟨_, rfl, ?_⟩; have n0_ := Aside0.mk (Kd.R_below (by (with_reducible repeat (first | apply Kd.R_alloc | apply Kd.R_drewN | apply Kd.R_drew)); exact (Kd.R_mono (Kd.R_far (p := ⟨gb156, 2, none⟩) (Kd.R_far (p := ⟨gb156, 1, none⟩) (Kd.R_far (p := ⟨gb156, 0, none⟩) (Kd.R_types HO160.out BK156.out (by decide)) (fun _ hk => hk.2) (.int .i64 t161)) (fun _ hk => hk.2) (.bool t162)) (fun _ hk => hk.2) (.bool t163)) (fun _ h_ => h_.1))) hb); have n1_ := Aside0.mk (blk_below (g := gb156) (o := .cells #[.int .i64 t161, .bool t162, .bool t163] 56 (0, 0)) (by (with_reducible repeat (first | refine blk_drewN ?_ _ | refine blk_drew ?_ | refine blk_alloc ?_ _)); refine blk_put (cs := #[.int .i64 t161, .bool t162, .bool a1_2]) ?_ 2 _ rfl; (with_reducible repeat (first | refine blk_drewN ?_ _ | refine blk_drew ?_ | refine blk_alloc ?_ _)); refine blk_put (cs := #[.int .i64 t161, .bool a1_1, .bool a1_2]) ?_ 1 _ rfl; (with_reducible repeat (first | refine blk_drewN ?_ _ | refine blk_drew ?_ | refine blk_alloc ?_ _)); refine blk_put (cs := #[.int .i64 a1_0, .bool a1_1, .bool a1_2]) ?_ 0 _ rfl; (with_reducible repeat (first | refine blk_drewN ?_ _ | refine blk_drew ?_ | refine blk_alloc ?_ _)); exact BK156.out) hb); have n2_ := Aside0.mk (below_step (by repeat (first | (with_reducible first | exact HB.out | apply below_alloc | apply pw_below_drewN | apply below_drew1 | refine below_set ?_ GE156.out) | exact HB.out)) hb); clear HO160; clear BK156; clear HB; have HO160 := n0_; have BK156 := n1_; have HB := n2_; clear n0_ n1_ n2_; (try clear hb); (try clear hb2); (try clear hk); (try clear hi); have hcz27_0 : w26.cell? ⟨gb156, 0, none⟩ = some (.int .i64 t161) := (blk_cell BK156.out 0).trans rfl; have hcz27_1 : w26.cell? ⟨gb156, 1, none⟩ = some (.bool t162) := (blk_cell BK156.out 1).trans rfl; have hcz27_2 : w26.cell? ⟨gb156, 2, none⟩ = some (.bool t163) := (blk_cell BK156.out 2).trans rfl; have hfz27_0 := blk_frozen BK156.out 0; have hfz27_1 := blk_frozen BK156.out 1; have hfz27_2 := blk_frozen BK156.out 2) | ((with_reducible refine gate_callee (f := 22) rfl ?_); refine goesL_ (some 44) rfl rfl Tryd.func22 (by kernel_rfl) rfl #[.slice Ao25 t158.length co25, .agg #[.int .i64 t161, .bool t162, .bool t163], .int .i64 (wrap64 (t164 + t165))] rfl (by (try simp only [List.map_toArray, List.map_cons, List.map_nil]); first | done | rfl | (simp only [List.length_drop, List.length_take]; rfl)) ?_; (with_reducible refine (metric_Fit.calls k _ _ t158 t161 t162 t163 (wrap64 (t164 + t165)) c4 l4 c5 l5 t169 t170 t171 _ ?side1 ?side2 ?side3 ?side4 ?side5 ?side6 A14.out).mono ?_); (case side1 => repeat (first | exact (Kd.R_reads' HO160.out).2.2 | (with_reducible refine Kd.C_alloc ?_ _) | (with_reducible refine Kd.C_drewN ?_ _) | (with_reducible refine Kd.C_drew ?_))); (case side2 => exact (Kd.R_reads' HO160.out).2.1); (case side3 => repeat (first | exact (Kd.C_below HR4.out HB.out) | (with_reducible refine Kd.C_alloc ?_ _) | (with_reducible refine Kd.C_drewN ?_ _) | (with_reducible refine Kd.C_drew ?_))); (case side4 => exact HC4.out); (case side5 => repeat (first | exact (Kd.C_below HR5.out HB.out) | (with_reducible refine Kd.C_alloc ?_ _) | (with_reducible refine Kd.C_drewN ?_ _) | (with_reducible refine Kd.C_drew ?_))); (case side6 => exact HC5.out); rintro e w28 ⟨rfl, hb⟩; refine ⟨_, rfl, ?_⟩; have n0_ := Aside0.mk (Kd.R_below (by (with_reducible repeat (first | apply Kd.R_alloc | apply Kd.R_drewN | apply Kd.R_drew)); exact HO160.out) hb); have n1_ := Aside0.mk (blk_below (g := gb156) (o := .cells #[.int .i64 t161, .bool t162, .bool t163] 56 (0, 0)) (by (with_reducible repeat (first | refine blk_drewN ?_ _ | refine blk_drew ?_ | refine blk_alloc ?_ _)); exact BK156.out) hb); have n2_ := Aside0.mk (below_step (by repeat (first | (with_reducible first | exact HB.out | apply below_alloc | apply pw_below_drewN | apply below_drew1 | refine below_set ?_ GE156.out) | exact HB.out)) hb); clear HO160; clear BK156; clear HB; have HO160 := n0_; have BK156 := n1_; have HB := n2_; clear n0_ n1_ n2_; (try clear hb); (try clear hb2); (try clear hk); (try clear hi)))
  (try simp only [Act.put, List.setIfInBounds_toArray, List.set_cons_zero, List.set_cons_succ])
  go_cut [73] (fun v73 wc => ∃ (kq : Nat) (x73_14 : Bool), v73 = .bool x73_14 ∧ Aside0 (ck_MetricFitNarrows.j0 kq t158 t164 t166 t167 x73_14 l4 l5 t161 t162 t163 = some r) ∧ Aside0 (kq ≤ k) ∧ Aside0 (Kd.R (Kd.int .i64) 3 wc w.heap.size (fun _ => True) (.slice Ao25 t158.length co25) t158) ∧ Aside0 (wc.heap[gb156]? = some (.cells #[.int .i64 t161, .bool t162, .bool t163] 56 (0, 0))) ∧ Aside0 (Below w.heap.size w wc))
  case first =>
   have H := HC15.out
   clear HC15
   by_cases c29 : t168 = 0
   ·rw [if_pos c29] at H
    have c29b0 : (t168 == 0) = true := beq_iff_eq.mpr c29
    have c29b1 : (t168 != 0) = false := bne_eq_false_iff_eq.mpr c29
    clear c29
    (first | rw [c29b0] | (simp only [i64_w, i32_w]; rw [c29b0]) | skip)
    by_cases c30 : t171 = 0
    ·rw [if_pos c30] at H
     have c30b0 : (t171 == 0) = true := beq_iff_eq.mpr c30
     have c30b1 : (t171 != 0) = false := bne_eq_false_iff_eq.mpr c30
     clear c30
     by_cases c31 : t166 < 0
     ·rw [if_pos c31] at H
      have c31b0 : decide (t166 < 0) = true := decide_eq_true c31
      clear c31
      have H' := Aside0.mk H
      clear H
      go_wp2
      go_meet
      case rel => exact ⟨_, (true), (by first | rfl | (simp; done) | (simp [*]; done)), H', ⟨by first | omega | exact Nat.le_refl _⟩, ⟨by (with_reducible repeat (first | apply Kd.R_alloc | apply Kd.R_drewN | apply Kd.R_drew)); exact HO160.out⟩, ⟨by (with_reducible repeat (first | refine blk_drewN ?_ _ | refine blk_drew ?_ | refine blk_alloc ?_ _)); exact BK156.out⟩, ⟨by repeat (first | (with_reducible first | exact HB.out | apply below_alloc | apply pw_below_drewN | apply below_drew1 | refine below_set ?_ GE156.out) | exact HB.out)⟩⟩
     ·rw [if_neg c31] at H
      have c31b0 : decide (t166 < 0) = false := decide_eq_false c31
      clear c31
      by_cases c32 : t166 > (t158.length : Int)
      ·rw [if_pos c32] at H
       have c32b0 : decide ((t158.length : Int) < t166) = true := decide_eq_true c32
       clear c32
       have H' := Aside0.mk H
       clear H
       go_wp2
       go_meet
       case rel => exact ⟨_, (true), (by first | rfl | (simp; done) | (simp [*]; done)), H', ⟨by first | omega | exact Nat.le_refl _⟩, ⟨by (with_reducible repeat (first | apply Kd.R_alloc | apply Kd.R_drewN | apply Kd.R_drew)); exact HO160.out⟩, ⟨by (with_reducible repeat (first | refine blk_drewN ?_ _ | refine blk_drew ?_ | refine blk_alloc ?_ _)); exact BK156.out⟩, ⟨by repeat (first | (with_reducible first | exact HB.out | apply below_alloc | apply pw_below_drewN | apply below_drew1 | refine below_set ?_ GE156.out) | exact HB.out)⟩⟩
      ·rw [if_neg c32] at H
       have c32b0 : decide ((t158.length : Int) < t166) = false := decide_eq_false c32
       clear c32
       by_cases c33 : t169 < t166
       ·rw [if_pos c33] at H
        have c33b0 : decide (t169 < t166) = true := decide_eq_true c33
        clear c33
        have H' := Aside0.mk H
        clear H
        go_wp2
        go_meet
        case rel => exact ⟨_, (true), (by first | rfl | (simp; done) | (simp [*]; done)), H', ⟨by first | omega | exact Nat.le_refl _⟩, ⟨by (with_reducible repeat (first | apply Kd.R_alloc | apply Kd.R_drewN | apply Kd.R_drew)); exact HO160.out⟩, ⟨by (with_reducible repeat (first | refine blk_drewN ?_ _ | refine blk_drew ?_ | refine blk_alloc ?_ _)); exact BK156.out⟩, ⟨by repeat (first | (with_reducible first | exact HB.out | apply below_alloc | apply pw_below_drewN | apply below_drew1 | refine below_set ?_ GE156.out) | exact HB.out)⟩⟩
       ·rw [if_neg c33] at H
        have c33b0 : decide (t169 < t166) = false := decide_eq_false c33
        clear c33
        have H' := Aside0.mk H
        clear H
        go_wp2
        go_meet
        case rel => exact ⟨_, (decide (t167 > t164)), (by first | rfl | (simp; done) | (simp [*]; done)), H', ⟨by first | omega | exact Nat.le_refl _⟩, ⟨by (with_reducible repeat (first | apply Kd.R_alloc | apply Kd.R_drewN | apply Kd.R_drew)); exact HO160.out⟩, ⟨by (with_reducible repeat (first | refine blk_drewN ?_ _ | refine blk_drew ?_ | refine blk_alloc ?_ _)); exact BK156.out⟩, ⟨by repeat (first | (with_reducible first | exact HB.out | apply below_alloc | apply pw_below_drewN | apply below_drew1 | refine below_set ?_ GE156.out) | exact HB.out)⟩⟩
    ·rw [if_neg c30] at H
     have c30b0 : (t171 == 0) = false := beq_eq_false_iff_ne.mpr c30
     have c30b1 : (t171 != 0) = true := bne_iff_ne.mpr c30
     have H' := Aside0.mk H
     clear H
     go_wp2
     go_meet
     case rel => exact ⟨_, (true), (by first | rfl | (simp; done) | (simp [*]; done)), H', ⟨by first | omega | exact Nat.le_refl _⟩, ⟨by (with_reducible repeat (first | apply Kd.R_alloc | apply Kd.R_drewN | apply Kd.R_drew)); exact HO160.out⟩, ⟨by (with_reducible repeat (first | refine blk_drewN ?_ _ | refine blk_drew ?_ | refine blk_alloc ?_ _)); exact BK156.out⟩, ⟨by repeat (first | (with_reducible first | exact HB.out | apply below_alloc | apply pw_below_drewN | apply below_drew1 | refine below_set ?_ GE156.out) | exact HB.out)⟩⟩
   ·rw [if_neg c29] at H
    have c29b0 : (t168 == 0) = false := beq_eq_false_iff_ne.mpr c29
    have c29b1 : (t168 != 0) = true := bne_iff_ne.mpr c29
    (first | rw [c29b0] | (simp only [i64_w, i32_w]; rw [c29b0]) | skip)
    have H' := Aside0.mk H
    clear H
    go_wp2
    go_meet
    case rel => exact ⟨_, (true), (by first | rfl | (simp; done) | (simp [*]; done)), H', ⟨by first | omega | exact Nat.le_refl _⟩, ⟨by (with_reducible repeat (first | apply Kd.R_alloc | apply Kd.R_drewN | apply Kd.R_drew)); exact HO160.out⟩, ⟨by (with_reducible repeat (first | refine blk_drewN ?_ _ | refine blk_drew ?_ | refine blk_alloc ?_ _)); exact BK156.out⟩, ⟨by repeat (first | (with_reducible first | exact HB.out | apply below_alloc | apply pw_below_drewN | apply below_drew1 | refine below_set ?_ GE156.out) | exact HB.out)⟩⟩
  case rest =>
   clear HC15
   try clear c1
   try clear c2
   try clear p2
   try clear c3
   try clear c4
   try clear c5
   try clear p6
   try clear c7
   try clear c8
   try clear c9
   try clear c13
   try clear c20
   try clear c21
   try clear c22
   try clear c29
   try clear c29b0
   try clear c29b1
   try clear c30
   try clear c30b0
   try clear c30b1
   try clear c31
   try clear c31b0
   try clear c32
   try clear c32b0
   try clear c33
   try clear c33b0
   try clear hcz24_0
   try clear hcz24_1
   try clear hcz24_2
   try clear hcz27_0
   try clear hcz27_1
   try clear hcz27_2
   try clear hfz24_0
   try clear hfz24_1
   try clear hfz24_2
   try clear hfz27_0
   try clear hfz27_1
   try clear hfz27_2
   obtain ⟨kq, x73_14, rfl, HA, HJ14, HO_0, BK156, HB⟩ := hcut
   cases kq with
   | zero => exact absurd HA.out (by simp [ck_MetricFitNarrows.j0])
   | succ kj14 =>
    have H := HA.out
    clear HA
    simp only [ck_MetricFitNarrows.j0] at H
    by_cases c34 : x73_14 = true
    ·subst c34
     have H1 : (some false) = some r := by rw [if_pos rfl] at H; exact H
     clear H
     have H := H1
     clear H1
     obtain rfl := Option.some.inj H
     go_wp2
     go_ret
     exact ⟨by first | rfl | (simp [errW_none, errW_some] <;> rfl) | (simp [*, errW_none, errW_some] <;> rfl), by repeat (first | (with_reducible first | exact HB.out | apply below_alloc | apply pw_below_drewN | apply below_drew1 | refine below_set ?_ GE156.out) | exact HB.out)⟩
    ·replace c34 := Bool.eq_false_iff.mpr c34
     subst c34
     have H1 : (if 0 ≤ t166 then (if t166 ≤ (t158.length : Int) then ((metric_Width.f kj14 (t158.take (t166 : Int).toNat) t161 t162 t163 l4 l5).bind fun bt176 => (if bt176.2 = 0 then (ck_MetricFitNarrows.j1 kj14 t158 t164 t166 (bt176.1 != t167) l4 l5 t161 t162 t163) else (ck_MetricFitNarrows.j1 kj14 t158 t164 t166 true l4 l5 t161 t162 t163))) else (none)) else (none)) = some r := by rw [if_neg (show ¬ (false = true) by decide)] at H; exact H
     clear H
     have H := H1
     clear H1
     by_cases c35 : 0 ≤ t166
     ·rw [if_pos c35] at H
      have c35b0 := eq_true c35
      have c35b1 : decide (0 ≤ t166) = true := decide_eq_true c35
      clear c35
      by_cases c36 : t166 ≤ (t158.length : Int)
      ·rw [if_pos c36] at H
       have c36b0 := eq_true c36
       have c36b1 : decide (t166 ≤ (t158.length : Int)) = true := decide_eq_true c36
       clear c36
       obtain ⟨y172, hy172⟩ : ∃ y_ : List Int, y_ = (t158.take (t166 : Int).toNat) := ⟨_, rfl⟩
       replace H : ((metric_Width.f kj14 y172 t161 t162 t163 l4 l5).bind fun bt176 => (if bt176.2 = 0 then (ck_MetricFitNarrows.j1 kj14 t158 t164 t166 (bt176.1 != t167) l4 l5 t161 t162 t163) else (ck_MetricFitNarrows.j1 kj14 t158 t164 t166 true l4 l5 t161 t162 t163))) = some r := by first | (rw [hy172]; with_reducible exact H) | (have H2_ := (Option.bind_some _ _).symm.trans H; rw [hy172]; with_reducible exact H2_) | (have H2_ := (Option.bind_some _ _).symm.trans H; with_reducible exact H2_) | with_reducible exact H | (rw [hy172]; exact H) | exact H
       have Ny172 := Aside0.mk hy172
       clear hy172
       replace H := Option.bind_eq_some_iff.mp H
       obtain ⟨⟨t176, t177⟩, A370, H⟩ := H
       replace H : (if t177 = 0 then (ck_MetricFitNarrows.j1 kj14 t158 t164 t166 (t176 != t167) l4 l5 t161 t162 t163) else (ck_MetricFitNarrows.j1 kj14 t158 t164 t166 true l4 l5 t161 t162 t163)) = some r := H
       have A37 := Aside0.mk A370
       clear A370
       have HC38 := Aside0.mk H
       clear H
       try go_wp2
       have n0_ := Aside0.mk (Kd.R_drew HO_0.out)
       have n1_ := Aside0.mk (blk_drew BK156.out)
       have n2_ := Aside0.mk (below_drew1 HB.out)
       clear HO_0
       clear BK156
       clear HB
       have HO_0 := n0_
       have BK156 := n1_
       have HB := n2_
       clear n0_ n1_ n2_
       have q40 : (t166 : Int) ≤ ((t158.length : Int) : Int) := of_decide_eq_true (by first | (with_reducible assumption) | assumption)
       obtain ⟨i040, hi040, _, hsz40, _⟩ := info_parts info3
       have hroom40 : t158.length ≤ co25 := (Kd.R_reads' HO_0.out).2.1
       have hC40 : Kd.C (Kd.int .i64) _ Ao25 t158.length t158 := (Kd.R_reads' HO_0.out).2.2
       have hcut40 := cut_to (P := Tryd.prog) 22 3 .i64 Tryd.underlying22 hi040 Ao25 t158.length co25 t166 (of_decide_eq_true (by first | (with_reducible assumption) | assumption)) q40 hroom40
       have hr40 := Kd.C_take (m := (t166 : Int).toNat) hC40 (by omega)
       have hy40 : y172.length = (t166 : Int).toNat := (by rw [Ny172.out, List.length_take]; omega)
       rw [← Ny172.out] at hr40
       rw [← hy40] at hcut40
       have HR175 := Aside0.mk hr40
       have HC175 := Aside0.mk (show y172.length ≤ co25 from by omega)
       clear hr40 hC40 hroom40 hi040 hsz40
       have KY40 := Aside0.mk hy40
       clear hy40
       have KL40 := Aside0.mk (show (t166 : Int).toNat ≤ t158.length from by omega)
       replace q40 := eq_true q40
       refine start_ (n := 10) (S := fun w' => w'.cell? ⟨gb156, 0, none⟩ = some (.int .i64 t161) ∧ w'.cell? ⟨gb156, 1, none⟩ = some (.bool t162) ∧ w'.cell? ⟨gb156, 2, none⟩ = some (.bool t163)) (ds := []) #[false, false, false, false, false, false, false, false, false, false] (by kernel_rfl) rfl rfl ⟨(blk_cell BK156.out 0).trans rfl, (blk_cell BK156.out 1).trans rfl, (blk_cell BK156.out 2).trans rfl⟩ (fun hHeld => ?_); refine with_tabW ck_MetricFitNarrows.tab9 ck_MetricFitNarrows.bits9 (fun HT_ HW_ => ?_)
       generalize wc.drew = w39 at HO_0 BK156 HB HR175 hHeld ⊢
       refine pure_ (i := 0) (N := some 75) (v := ?_) (a' := ?_) #[true, false, false, false, false, false, false, false, false, false] rfl rfl (any_of HT_.out (by kernel_rfl)) (fun _ _ _ h => h) (Or.inl ⟨by rfl, ?_⟩) ?_ ?_
       rotate_left
       ·intro w'
        go_simp
        with_reducible rfl
       rotate_left
       ·simp only [Act.put, List.setIfInBounds_toArray, List.set_cons_zero, List.set_cons_succ, i64_w, i32_w]
        rfl
       refine pure_ (i := 1) (N := some 76) (v := ?_) (a' := ?_) #[true, true, false, false, false, false, false, false, false, false] rfl rfl (any_of HT_.out (by kernel_rfl)) (fun _ _ _ h => h) (Or.inl ⟨by rfl, ?_⟩) ?_ ?_
       rotate_left
       ·intro w'
        go_simp
        with_reducible rfl
       rotate_left
       ·simp only [Act.put, List.setIfInBounds_toArray, List.set_cons_zero, List.set_cons_succ, i64_w, i32_w]
        rfl
       refine pure_ (i := 2) (N := some 77) (v := ?_) (a' := ?_) #[true, true, true, false, false, false, false, false, false, false] rfl rfl (any_of HT_.out (by kernel_rfl)) (fun _ _ _ h => h) (Or.inl ⟨by rfl, ?_⟩) ?_ ?_
       rotate_left
       ·intro w'
        go_simp
        with_reducible rfl
       rotate_left
       ·simp only [Act.put, List.setIfInBounds_toArray, List.set_cons_zero, List.set_cons_succ, i64_w, i32_w]
        rfl
       refine take_ (i := 3) (N := some 78) (v := ?_) (a' := ?_) #[true, true, true, true, false, false, false, false, false, false] rfl rfl (take_ofW HT_.out HW_.out (by kernel_rfl)) (fun _ _ _ h => h) (Or.inl ⟨by rfl, ?_⟩) hHeld ?_ ?_
       rotate_left
       ·rintro w' ⟨s0, s1, s2⟩
        go_simp
        with_reducible rfl
       rotate_left
       ·simp only [Act.put, List.setIfInBounds_toArray, List.set_cons_zero, List.set_cons_succ, i64_w, i32_w]
        rfl
       refine one_ (i := 4) (N := some 79) #[true, true, true, true, true, false, false, false, false, false] rfl rfl (one_of HT_.out (by kernel_rfl)) (by decide) (fun K hK => ?_)
       refine goes_ Tryd.func23 (by kernel_rfl) rfl #[.slice Ao25 y172.length co25, .agg #[.int .i64 t161, .bool t162, .bool t163]] (by rfl) rfl rfl (by (try simp only [List.map_toArray, List.map_cons, List.map_nil]); first | done | rfl | (simp only [List.length_drop, List.length_take]; rfl)) ?_
       with_reducible refine (metric_Width.calls kj14 _ _ y172 t161 t162 t163 c4 l4 c5 l5 t176 t177 _ ?side1 ?side2 ?side3 ?side4 ?side5 ?side6 A37.out).mono ?_
       (case side1 => repeat (first | exact (by repeat (first | (with_reducible exact HR175.out) | (with_reducible refine Kd.C_alloc ?_ _) | (with_reducible refine Kd.C_drewN ?_ _) | (with_reducible refine Kd.C_drew ?_) | exact HR175.out)) | (with_reducible refine Kd.C_alloc ?_ _) | (with_reducible refine Kd.C_drewN ?_ _) | (with_reducible refine Kd.C_drew ?_)))
       (case side2 => exact HC175.out)
       (case side3 => repeat (first | exact (Kd.C_below HR4.out HB.out) | (with_reducible refine Kd.C_alloc ?_ _) | (with_reducible refine Kd.C_drewN ?_ _) | (with_reducible refine Kd.C_drew ?_)))
       (case side4 => exact HC4.out)
       (case side5 => repeat (first | exact (Kd.C_below HR5.out HB.out) | (with_reducible refine Kd.C_alloc ?_ _) | (with_reducible refine Kd.C_drewN ?_ _) | (with_reducible refine Kd.C_drew ?_)))
       (case side6 => exact HC5.out)
       rintro e w41 ⟨rfl, hb⟩
       refine ⟨_, rfl, ?_⟩
       have n0_ := Aside0.mk (Kd.R_below (by (with_reducible repeat (first | apply Kd.R_alloc | apply Kd.R_drewN | apply Kd.R_drew)); exact HO_0.out) hb)
       have n1_ := Aside0.mk (blk_below (g := gb156) (o := .cells #[.int .i64 t161, .bool t162, .bool t163] 56 (0, 0)) (by (with_reducible repeat (first | refine blk_drewN ?_ _ | refine blk_drew ?_ | refine blk_alloc ?_ _)); exact BK156.out) hb)
       have n2_ := Aside0.mk (Kd.C_below (by repeat (first | (with_reducible exact HR175.out) | (with_reducible refine Kd.C_alloc ?_ _) | (with_reducible refine Kd.C_drewN ?_ _) | (with_reducible refine Kd.C_drew ?_) | exact HR175.out)) hb)
       have n3_ := Aside0.mk (below_step (by repeat (first | (with_reducible first | exact HB.out | apply below_alloc | apply pw_below_drewN | apply below_drew1 | refine below_set ?_ GE156.out) | exact HB.out)) hb)
       clear HO_0
       clear BK156
       clear HR175
       clear HB
       have HO_0 := n0_
       have BK156 := n1_
       have HR175 := n2_
       have HB := n3_
       clear n0_ n1_ n2_ n3_
       (try clear hb)
       (try clear hb2)
       (try clear hk)
       (try clear hi)
       refine hK.out _ _ ⟨(blk_cell BK156.out 0).trans rfl, (blk_cell BK156.out 1).trans rfl, (blk_cell BK156.out 2).trans rfl⟩ (fun hHeld => ?_)
       clear hK K
       refine norm_ (a' := ?_) ?_ ?_
       rotate_left
       ·show Act.put _ (some 79) _ = _
        simp only [Act.put, List.setIfInBounds_toArray, List.set_cons_zero, List.set_cons_succ, i64_w, i32_w]
        rfl
       refine pure_ (i := 5) (N := some 74) (v := ?_) (a' := ?_) #[true, true, true, true, true, true, false, false, false, false] rfl rfl (any_of HT_.out (by kernel_rfl)) (fun _ _ _ h => h) (Or.inl ⟨by rfl, ?_⟩) ?_ ?_
       rotate_left
       ·intro w'
        go_simp
        with_reducible rfl
       rotate_left
       ·simp only [Act.put, List.setIfInBounds_toArray, List.set_cons_zero, List.set_cons_succ, i64_w, i32_w]
        rfl
       refine pure_ (i := 6) (N := some 80) (v := ?_) (a' := ?_) #[true, true, true, true, true, true, true, false, false, false] rfl rfl (any_of HT_.out (by kernel_rfl)) (fun _ _ _ h => h) (Or.inl ⟨by rfl, ?_⟩) ?_ ?_
       rotate_left
       ·intro w'
        go_simp
        with_reducible rfl
       rotate_left
       ·simp only [Act.put, List.setIfInBounds_toArray, List.set_cons_zero, List.set_cons_succ, i64_w, i32_w]
        rfl
       refine pure_ (i := 7) (N := some 81) (v := ?_) (a' := ?_) #[true, true, true, true, true, true, true, true, false, false] rfl rfl (any_of HT_.out (by kernel_rfl)) (fun _ _ _ h => h) (Or.inl ⟨by rfl, ?_⟩) ?_ ?_
       rotate_left
       ·intro w'
        go_simp
        with_reducible rfl
       rotate_left
       ·simp only [Act.put, List.setIfInBounds_toArray, List.set_cons_zero, List.set_cons_succ, i64_w, i32_w]
        rfl
       refine pure_ (i := 8) (N := some 15) (v := ?_) (a' := ?_) #[true, true, true, true, true, true, true, true, true, false] rfl rfl (any_of HT_.out (by kernel_rfl)) (fun _ _ _ h => h) (Or.inl ⟨by rfl, ?_⟩) ?_ ?_
       rotate_left
       ·intro w'
        go_simp
        with_reducible rfl
       rotate_left
       ·simp only [Act.put, List.setIfInBounds_toArray, List.set_cons_zero, List.set_cons_succ, i64_w, i32_w]
        rfl
       refine pure_ (i := 9) (N := some 16) (v := ?_) (a' := ?_) #[true, true, true, true, true, true, true, true, true, true] rfl rfl (any_of HT_.out (by kernel_rfl)) (fun _ _ _ h => h) (Or.inl ⟨by rfl, ?_⟩) ?_ ?_
       rotate_left
       ·intro w'
        go_simp
        with_reducible rfl
       rotate_left
       ·simp only [Act.put, List.setIfInBounds_toArray, List.set_cons_zero, List.set_cons_succ, i64_w, i32_w]
        rfl
       refine done_ (done_of HT_.out (by kernel_rfl)) ?_
       go_upto_region 10 with (fail)
       go_cut [88] (fun v88 wc => ∃ (kq : Nat) (x88_37 : Bool), v88 = .bool x88_37 ∧ Aside0 (ck_MetricFitNarrows.j1 kq t158 t164 t166 x88_37 l4 l5 t161 t162 t163 = some r) ∧ Aside0 (kq ≤ kj14) ∧ Aside0 (Kd.R (Kd.int .i64) 3 wc w.heap.size (fun _ => True) (.slice Ao25 t158.length co25) t158) ∧ Aside0 (wc.heap[gb156]? = some (.cells #[.int .i64 t161, .bool t162, .bool t163] 56 (0, 0))) ∧ Aside0 (Kd.C (Kd.int .i64) wc Ao25 y172.length y172) ∧ Aside0 (Below w.heap.size w wc))
       case first =>
        have H := HC38.out
        clear HC38
        by_cases c42 : t177 = 0
        ·rw [if_pos c42] at H
         have c42b0 : (t177 == 0) = true := beq_iff_eq.mpr c42
         have c42b1 : (t177 != 0) = false := bne_eq_false_iff_eq.mpr c42
         clear c42
         (first | rw [c42b0] | (simp only [i64_w, i32_w]; rw [c42b0]) | skip)
         have H' := Aside0.mk H
         clear H
         go_wp2
         go_meet
         case rel => exact ⟨_, ((t176 != t167)), (by first | rfl | (simp; done) | (simp [*]; done)), H', ⟨by have := HJ14.out; first | omega | exact Nat.le_refl _⟩, ⟨by (with_reducible repeat (first | apply Kd.R_alloc | apply Kd.R_drewN | apply Kd.R_drew)); exact HO_0.out⟩, ⟨by (with_reducible repeat (first | refine blk_drewN ?_ _ | refine blk_drew ?_ | refine blk_alloc ?_ _)); exact BK156.out⟩, ⟨by repeat (first | (with_reducible exact HR175.out) | (with_reducible refine Kd.C_alloc ?_ _) | (with_reducible refine Kd.C_drewN ?_ _) | (with_reducible refine Kd.C_drew ?_) | exact HR175.out)⟩, ⟨by repeat (first | (with_reducible first | exact HB.out | apply below_alloc | apply pw_below_drewN | apply below_drew1 | refine below_set ?_ GE156.out) | exact HB.out)⟩⟩
        ·rw [if_neg c42] at H
         have c42b0 : (t177 == 0) = false := beq_eq_false_iff_ne.mpr c42
         have c42b1 : (t177 != 0) = true := bne_iff_ne.mpr c42
         (first | rw [c42b0] | (simp only [i64_w, i32_w]; rw [c42b0]) | skip)
         have H' := Aside0.mk H
         clear H
         go_wp2
         go_meet
         case rel => exact ⟨_, (true), (by first | rfl | (simp; done) | (simp [*]; done)), H', ⟨by have := HJ14.out; first | omega | exact Nat.le_refl _⟩, ⟨by (with_reducible repeat (first | apply Kd.R_alloc | apply Kd.R_drewN | apply Kd.R_drew)); exact HO_0.out⟩, ⟨by (with_reducible repeat (first | refine blk_drewN ?_ _ | refine blk_drew ?_ | refine blk_alloc ?_ _)); exact BK156.out⟩, ⟨by repeat (first | (with_reducible exact HR175.out) | (with_reducible refine Kd.C_alloc ?_ _) | (with_reducible refine Kd.C_drewN ?_ _) | (with_reducible refine Kd.C_drew ?_) | exact HR175.out)⟩, ⟨by repeat (first | (with_reducible first | exact HB.out | apply below_alloc | apply pw_below_drewN | apply below_drew1 | refine below_set ?_ GE156.out) | exact HB.out)⟩⟩
       case rest =>
        clear HC38
        try clear c1
        try clear c2
        try clear p2
        try clear c3
        try clear c4
        try clear q4
        try clear c5
        try clear p6
        try clear c7
        try clear c8
        try clear c9
        try clear c13
        try clear c20
        try clear c21
        try clear c22
        try clear c23
        try clear c29
        try clear c29b0
        try clear c29b1
        try clear c30
        try clear c30b0
        try clear c30b1
        try clear c31
        try clear c31b0
        try clear c32
        try clear c32b0
        try clear c33
        try clear c33b0
        try clear c34
        try clear c35
        try clear c35b0
        try clear c35b1
        try clear c36
        try clear c36b0
        try clear c36b1
        try clear q40
        try clear c42
        try clear c42b0
        try clear c42b1
        try clear hcz24_0
        try clear hcz24_1
        try clear hcz24_2
        try clear hcz27_0
        try clear hcz27_1
        try clear hcz27_2
        try clear hfz24_0
        try clear hfz24_1
        try clear hfz24_2
        try clear hfz27_0
        try clear hfz27_1
        try clear hfz27_2
        try clear p2
        try clear p6
        try clear q40
        obtain ⟨kq, x88_37, rfl, HA, HJ37, HO_0, BK156, HR175, HB⟩ := hcut
        cases kq with
        | zero => exact absurd HA.out (by simp [ck_MetricFitNarrows.j1])
        | succ kj37 =>
         have H := HA.out
         clear HA
         simp only [ck_MetricFitNarrows.j1] at H
         by_cases c43 : x88_37 = true
         ·subst c43
          have H1 : (some false) = some r := by rw [if_pos rfl] at H; exact H
          clear H
          have H := H1
          clear H1
          obtain rfl := Option.some.inj H
          go_wp2
          go_ret
          exact ⟨by first | rfl | (simp [errW_none, errW_some] <;> rfl) | (simp [*, errW_none, errW_some] <;> rfl), by repeat (first | (with_reducible first | exact HB.out | apply below_alloc | apply pw_below_drewN | apply below_drew1 | refine below_set ?_ GE156.out) | exact HB.out)⟩
         ·replace c43 := Bool.eq_false_iff.mpr c43
          subst c43
          have H1 : (ck_MetricFitNarrows.l0 kj37 t158 t164 t166 (wrap64 (t166 + 1)) l4 l5 t161 t162 t163) = some r := by rw [if_neg (show ¬ (false = true) by decide)] at H; exact H
          clear H
          have H := H1
          clear H1
          have H' := Aside0.mk H
          clear H
          go_wp2
          go_loopg [17] kj37 (fun kq v17 w' => ∃ (x17_3 : Int), v17 = .int .i64 x17_3 ∧ Aside0 (ck_MetricFitNarrows.l0 kq t158 t164 t166 x17_3 l4 l5 t161 t162 t163 = some r) ∧ Aside0 (kq ≤ kj37) ∧ Aside0 (Kd.R (Kd.int .i64) 3 w' w.heap.size (fun _ => True) (.slice Ao25 t158.length co25) t158) ∧ Aside0 (w'.heap[gb156]? = some (.cells #[.int .i64 t161, .bool t162, .bool t163] 56 (0, 0))) ∧ Aside0 (Kd.C (Kd.int .i64) w' Ao25 y172.length y172) ∧ Aside0 (Below w.heap.size w w'))
          case atStart => exact ⟨(wrap64 (t166 + 1)), (by first | rfl | (simp; done) | (simp [*]; done)), H', ⟨Nat.le_refl _⟩, ⟨by (with_reducible repeat (first | apply Kd.R_alloc | apply Kd.R_drewN | apply Kd.R_drew)); exact HO_0.out⟩, ⟨by (with_reducible repeat (first | refine blk_drewN ?_ _ | refine blk_drew ?_ | refine blk_alloc ?_ _)); exact BK156.out⟩, ⟨by repeat (first | (with_reducible exact HR175.out) | (with_reducible refine Kd.C_alloc ?_ _) | (with_reducible refine Kd.C_drewN ?_ _) | (with_reducible refine Kd.C_drew ?_) | exact HR175.out)⟩, ⟨by repeat (first | (with_reducible first | exact HB.out | apply below_alloc | apply pw_below_drewN | apply below_drew1 | refine below_set ?_ GE156.out) | exact HB.out)⟩⟩
          case round =>
           clear H'
           try clear c1
           try clear c2
           try clear p2
           try clear c3
           try clear c4
           try clear q4
           try clear c5
           try clear p6
           try clear c7
           try clear c8
           try clear c9
           try clear c13
           try clear c20
           try clear c21
           try clear c22
           try clear c23
           try clear c29
           try clear c29b0
           try clear c29b1
           try clear c30
           try clear c30b0
           try clear c30b1
           try clear c31
           try clear c31b0
           try clear c32
           try clear c32b0
           try clear c33
           try clear c33b0
           try clear c34
           try clear c35
           try clear c35b0
           try clear c35b1
           try clear c36
           try clear c36b0
           try clear c36b1
           try clear q40
           try clear c42
           try clear c42b0
           try clear c42b1
           try clear c43
           try clear hcz24_0
           try clear hcz24_1
           try clear hcz24_2
           try clear hcz27_0
           try clear hcz27_1
           try clear hcz27_2
           try clear hfz24_0
           try clear hfz24_1
           try clear hfz24_2
           try clear hfz27_0
           try clear hfz27_1
           try clear hfz27_2
           try clear p2
           try clear p6
           try clear q4
           try clear q40
           obtain ⟨x17_3, rfl, HA, HK3, HO_0, BK156, HR175, HB⟩ := hrel
           cases gk with
           | zero => exact absurd HA.out (by simp [ck_MetricFitNarrows.l0])
           | succ k3 =>
            have H := HA.out
            clear HA
            simp only [ck_MetricFitNarrows.l0] at H
            by_cases c44 : x17_3 < (t158.length : Int)
            ·rw [if_pos c44] at H
             have c44b0 : decide (x17_3 < (t158.length : Int)) = true := decide_eq_true c44
             clear c44
             by_cases c45 : 0 ≤ x17_3
             ·rw [if_pos c45] at H
              have c45b0 : decide (0 ≤ x17_3) = true := decide_eq_true c45
              clear c45
              replace H := Option.bind_eq_some_iff.mp H
              obtain ⟨t179, A460, H⟩ := H
              replace H : (if t179 = true then (ck_MetricFitNarrows.l0 k3 t158 t164 t166 (wrap64 (x17_3 + 1)) l4 l5 t161 t162 t163) else (if t166 = (t158.length : Int) then (some true) else (if x17_3 ≤ (t158.length : Int) then ((metric_Width.f k3 (t158.take (x17_3 : Int).toNat) t161 t162 t163 l4 l5).bind fun bt184 => (some (decide (bt184.1 > t164)))) else (none)))) = some r := H
              have A46 := Aside0.mk A460
              clear A460
              by_cases c47 : t179 = true
              ·subst c47
               have H1 : (ck_MetricFitNarrows.l0 k3 t158 t164 t166 (wrap64 (x17_3 + 1)) l4 l5 t161 t162 t163) = some r := by rw [if_pos rfl] at H; exact H
               clear H
               have H := H1
               clear H1
               have H' := Aside0.mk H
               clear H
               have p178 : 0 ≤ (x17_3 : Int) := of_decide_eq_true (by first | (with_reducible assumption) | assumption)
               have q178 : x17_3 < (t158.length : Int) := of_decide_eq_true (by first | (with_reducible assumption) | assumption)
               obtain ⟨ad178, e178, hx178_0⟩ := Kd.at_int (Kd.R_reads' HO_0.out).2.2 x17_3 p178 q178
               cases e178
               replace p178 := eq_true p178
               replace q178 := eq_true q178
               go_wp2_with (first | (go_at_call 24; (with_reducible refine (metric_Mark.calls k3 (rd t158 x17_3) c4 l4 true _ ?side1 ?side2 A46.out).mono ?_); (case side1 => repeat (first | exact (Kd.C_below HR4.out HB.out) | (with_reducible refine Kd.C_alloc ?_ _) | (with_reducible refine Kd.C_drewN ?_ _) | (with_reducible refine Kd.C_drew ?_))); (case side2 => exact HC4.out); rintro e w48 ⟨rfl, hb⟩; have n0_ := Aside0.mk (Kd.R_below (by (with_reducible repeat (first | apply Kd.R_alloc | apply Kd.R_drewN | apply Kd.R_drew)); exact HO_0.out) hb); have n1_ := Aside0.mk (blk_below (g := gb156) (o := .cells #[.int .i64 t161, .bool t162, .bool t163] 56 (0, 0)) (by (with_reducible repeat (first | refine blk_drewN ?_ _ | refine blk_drew ?_ | refine blk_alloc ?_ _)); exact BK156.out) hb); have n2_ := Aside0.mk (Kd.C_below (by repeat (first | (with_reducible exact HR175.out) | (with_reducible refine Kd.C_alloc ?_ _) | (with_reducible refine Kd.C_drewN ?_ _) | (with_reducible refine Kd.C_drew ?_) | exact HR175.out)) hb); have n3_ := Aside0.mk (below_step (by repeat (first | (with_reducible first | exact HB.out | apply below_alloc | apply pw_below_drewN | apply below_drew1 | refine below_set ?_ GE156.out) | exact HB.out)) hb); clear HO_0; clear BK156; clear HR175; clear HB; have HO_0 := n0_; have BK156 := n1_; have HR175 := n2_; have HB := n3_; clear n0_ n1_ n2_ n3_; (try clear hb); (try clear hb2); (try clear hk); (try clear hi)))
               go_roundg k3
               case measure => have := HJ14.out; have := HJ37.out; have := HK3.out; omega
               case rel => exact ⟨(wrap64 (x17_3 + 1)), (by first | rfl | (simp; done) | (simp [*]; done)), H', ⟨by have := HJ14.out; have := HJ37.out; have := HK3.out; omega⟩, ⟨by (with_reducible repeat (first | apply Kd.R_alloc | apply Kd.R_drewN | apply Kd.R_drew)); exact HO_0.out⟩, ⟨by (with_reducible repeat (first | refine blk_drewN ?_ _ | refine blk_drew ?_ | refine blk_alloc ?_ _)); exact BK156.out⟩, ⟨by repeat (first | (with_reducible exact HR175.out) | (with_reducible refine Kd.C_alloc ?_ _) | (with_reducible refine Kd.C_drewN ?_ _) | (with_reducible refine Kd.C_drew ?_) | exact HR175.out)⟩, ⟨by repeat (first | (with_reducible first | exact HB.out | apply below_alloc | apply pw_below_drewN | apply below_drew1 | refine below_set ?_ GE156.out) | exact HB.out)⟩⟩
              ·replace c47 := Bool.eq_false_iff.mpr c47
               subst c47
               have H1 : (if t166 = (t158.length : Int) then (some true) else (if x17_3 ≤ (t158.length : Int) then ((metric_Width.f k3 (t158.take (x17_3 : Int).toNat) t161 t162 t163 l4 l5).bind fun bt184 => (some (decide (bt184.1 > t164)))) else (none))) = some r := by rw [if_neg (show ¬ (false = true) by decide)] at H; exact H
               clear H
               have H := H1
               clear H1
               by_cases c49 : t166 = (t158.length : Int)
               ·rw [if_pos c49] at H
                have c49b0 : (t166 == (t158.length : Int)) = true := beq_iff_eq.mpr c49
                have c49b1 : (t166 != (t158.length : Int)) = false := bne_eq_false_iff_eq.mpr c49
                clear c49
                obtain rfl := Option.some.inj H
                have p178 : 0 ≤ (x17_3 : Int) := of_decide_eq_true (by first | (with_reducible assumption) | assumption)
                have q178 : x17_3 < (t158.length : Int) := of_decide_eq_true (by first | (with_reducible assumption) | assumption)
                obtain ⟨ad178, e178, hx178_0⟩ := Kd.at_int (Kd.R_reads' HO_0.out).2.2 x17_3 p178 q178
                cases e178
                replace p178 := eq_true p178
                replace q178 := eq_true q178
                go_wp2_with (first | (go_at_call 24; (with_reducible refine (metric_Mark.calls k3 (rd t158 x17_3) c4 l4 false _ ?side1 ?side2 A46.out).mono ?_); (case side1 => repeat (first | exact (Kd.C_below HR4.out HB.out) | (with_reducible refine Kd.C_alloc ?_ _) | (with_reducible refine Kd.C_drewN ?_ _) | (with_reducible refine Kd.C_drew ?_))); (case side2 => exact HC4.out); rintro e w50 ⟨rfl, hb⟩; have n0_ := Aside0.mk (Kd.R_below (by (with_reducible repeat (first | apply Kd.R_alloc | apply Kd.R_drewN | apply Kd.R_drew)); exact HO_0.out) hb); have n1_ := Aside0.mk (blk_below (g := gb156) (o := .cells #[.int .i64 t161, .bool t162, .bool t163] 56 (0, 0)) (by (with_reducible repeat (first | refine blk_drewN ?_ _ | refine blk_drew ?_ | refine blk_alloc ?_ _)); exact BK156.out) hb); have n2_ := Aside0.mk (Kd.C_below (by repeat (first | (with_reducible exact HR175.out) | (with_reducible refine Kd.C_alloc ?_ _) | (with_reducible refine Kd.C_drewN ?_ _) | (with_reducible refine Kd.C_drew ?_) | exact HR175.out)) hb); have n3_ := Aside0.mk (below_step (by repeat (first | (with_reducible first | exact HB.out | apply below_alloc | apply pw_below_drewN | apply below_drew1 | refine below_set ?_ GE156.out) | exact HB.out)) hb); clear HO_0; clear BK156; clear HR175; clear HB; have HO_0 := n0_; have BK156 := n1_; have HR175 := n2_; have HB := n3_; clear n0_ n1_ n2_ n3_; (try clear hb); (try clear hb2); (try clear hk); (try clear hi)))
                go_ret
                exact ⟨by first | rfl | (simp [errW_none, errW_some] <;> rfl) | (simp [*, errW_none, errW_some] <;> rfl), by repeat (first | (with_reducible first | exact HB.out | apply below_alloc | apply pw_below_drewN | apply below_drew1 | refine below_set ?_ GE156.out) | exact HB.out)⟩
               ·rw [if_neg c49] at H
                have c49b0 : (t166 == (t158.length : Int)) = false := beq_eq_false_iff_ne.mpr c49
                have c49b1 : (t166 != (t158.length : Int)) = true := bne_iff_ne.mpr c49
                have c51b0 := eq_true (of_decide_eq_true (by first | (with_reducible assumption) | assumption) : 0 ≤ x17_3)
                by_cases c52 : x17_3 ≤ (t158.length : Int)
                ·rw [if_pos c52] at H
                 have c52b0 := eq_true c52
                 have c52b1 : decide (x17_3 ≤ (t158.length : Int)) = true := decide_eq_true c52
                 clear c52
                 obtain ⟨y180, hy180⟩ : ∃ y_ : List Int, y_ = (t158.take (x17_3 : Int).toNat) := ⟨_, rfl⟩
                 replace H : ((metric_Width.f k3 y180 t161 t162 t163 l4 l5).bind fun bt184 => (some (decide (bt184.1 > t164)))) = some r := by first | (rw [hy180]; with_reducible exact H) | (have H2_ := (Option.bind_some _ _).symm.trans H; rw [hy180]; with_reducible exact H2_) | (have H2_ := (Option.bind_some _ _).symm.trans H; with_reducible exact H2_) | with_reducible exact H | (rw [hy180]; exact H) | exact H
                 have Ny180 := Aside0.mk hy180
                 clear hy180
                 replace H := Option.bind_eq_some_iff.mp H
                 obtain ⟨⟨t184, t185⟩, A530, H⟩ := H
                 replace H : (some (decide (t184 > t164))) = some r := H
                 have A53 := Aside0.mk A530
                 clear A530
                 obtain rfl := Option.some.inj H
                 have p178 : 0 ≤ (x17_3 : Int) := of_decide_eq_true (by first | (with_reducible assumption) | assumption)
                 have q178 : x17_3 < (t158.length : Int) := of_decide_eq_true (by first | (with_reducible assumption) | assumption)
                 obtain ⟨ad178, e178, hx178_0⟩ := Kd.at_int (Kd.R_reads' HO_0.out).2.2 x17_3 p178 q178
                 cases e178
                 replace p178 := eq_true p178
                 replace q178 := eq_true q178
                 try go_wp2_with (first | (go_at_call 24; (with_reducible refine (metric_Mark.calls k3 (rd t158 x17_3) c4 l4 false _ ?side1 ?side2 A46.out).mono ?_); (case side1 => repeat (first | exact (Kd.C_below HR4.out HB.out) | (with_reducible refine Kd.C_alloc ?_ _) | (with_reducible refine Kd.C_drewN ?_ _) | (with_reducible refine Kd.C_drew ?_))); (case side2 => exact HC4.out); rintro e w54 ⟨rfl, hb⟩; have n0_ := Aside0.mk (Kd.R_below (by (with_reducible repeat (first | apply Kd.R_alloc | apply Kd.R_drewN | apply Kd.R_drew)); exact HO_0.out) hb); have n1_ := Aside0.mk (blk_below (g := gb156) (o := .cells #[.int .i64 t161, .bool t162, .bool t163] 56 (0, 0)) (by (with_reducible repeat (first | refine blk_drewN ?_ _ | refine blk_drew ?_ | refine blk_alloc ?_ _)); exact BK156.out) hb); have n2_ := Aside0.mk (Kd.C_below (by repeat (first | (with_reducible exact HR175.out) | (with_reducible refine Kd.C_alloc ?_ _) | (with_reducible refine Kd.C_drewN ?_ _) | (with_reducible refine Kd.C_drew ?_) | exact HR175.out)) hb); have n3_ := Aside0.mk (below_step (by repeat (first | (with_reducible first | exact HB.out | apply below_alloc | apply pw_below_drewN | apply below_drew1 | refine below_set ?_ GE156.out) | exact HB.out)) hb); clear HO_0; clear BK156; clear HR175; clear HB; have HO_0 := n0_; have BK156 := n1_; have HR175 := n2_; have HB := n3_; clear n0_ n1_ n2_ n3_; (try clear hb); (try clear hb2); (try clear hk); (try clear hi)))
                 have n0_ := Aside0.mk (Kd.R_drew HO_0.out)
                 have n1_ := Aside0.mk (blk_drew BK156.out)
                 have n2_ := Aside0.mk (Kd.C_drew HR175.out)
                 have n3_ := Aside0.mk (below_drew1 HB.out)
                 clear HO_0
                 clear BK156
                 clear HR175
                 clear HB
                 have HO_0 := n0_
                 have BK156 := n1_
                 have HR175 := n2_
                 have HB := n3_
                 clear n0_ n1_ n2_ n3_
                 have q56 : (x17_3 : Int) ≤ ((t158.length : Int) : Int) := of_decide_eq_true (by first | (with_reducible assumption) | assumption)
                 obtain ⟨i056, hi056, _, hsz56, _⟩ := info_parts info3
                 have hroom56 : t158.length ≤ co25 := (Kd.R_reads' HO_0.out).2.1
                 have hC56 : Kd.C (Kd.int .i64) _ (some ad178) t158.length t158 := (Kd.R_reads' HO_0.out).2.2
                 have hcut56 := cut_to (P := Tryd.prog) 22 3 .i64 Tryd.underlying22 hi056 (some ad178) t158.length co25 x17_3 (of_decide_eq_true (by first | (with_reducible assumption) | assumption)) q56 hroom56
                 have hr56 := Kd.C_take (m := (x17_3 : Int).toNat) hC56 (by omega)
                 have hy56 : y180.length = (x17_3 : Int).toNat := (by rw [Ny180.out, List.length_take]; omega)
                 rw [← Ny180.out] at hr56
                 rw [← hy56] at hcut56
                 have HR183 := Aside0.mk hr56
                 have HC183 := Aside0.mk (show y180.length ≤ co25 from by omega)
                 clear hr56 hC56 hroom56 hi056 hsz56
                 have KY56 := Aside0.mk hy56
                 clear hy56
                 have KL56 := Aside0.mk (show (x17_3 : Int).toNat ≤ t158.length from by omega)
                 replace q56 := eq_true q56
                 refine start_ (n := 10) (S := fun w' => w'.cell? ⟨gb156, 0, none⟩ = some (.int .i64 t161) ∧ w'.cell? ⟨gb156, 1, none⟩ = some (.bool t162) ∧ w'.cell? ⟨gb156, 2, none⟩ = some (.bool t163)) (ds := []) #[false, false, false, false, false, false, false, false, false, false] (by kernel_rfl) rfl rfl ⟨(blk_cell BK156.out 0).trans rfl, (blk_cell BK156.out 1).trans rfl, (blk_cell BK156.out 2).trans rfl⟩ (fun hHeld => ?_); refine with_tabW ck_MetricFitNarrows.tab17 ck_MetricFitNarrows.bits17 (fun HT_ HW_ => ?_)
                 generalize w54.drew = w55 at HO_0 BK156 HR175 HB HR183 hHeld ⊢
                 refine pure_ (i := 0) (N := some 109) (v := ?_) (a' := ?_) #[true, false, false, false, false, false, false, false, false, false] rfl rfl (any_of HT_.out (by kernel_rfl)) (fun _ _ _ h => h) (Or.inl ⟨by rfl, ?_⟩) ?_ ?_
                 rotate_left
                 ·intro w'
                  go_simp
                  with_reducible rfl
                 rotate_left
                 ·simp only [Act.put, List.setIfInBounds_toArray, List.set_cons_zero, List.set_cons_succ, i64_w, i32_w]
                  rfl
                 refine pure_ (i := 1) (N := some 110) (v := ?_) (a' := ?_) #[true, true, false, false, false, false, false, false, false, false] rfl rfl (any_of HT_.out (by kernel_rfl)) (fun _ _ _ h => h) (Or.inl ⟨by rfl, ?_⟩) ?_ ?_
                 rotate_left
                 ·intro w'
                  go_simp
                  with_reducible rfl
                 rotate_left
                 ·simp only [Act.put, List.setIfInBounds_toArray, List.set_cons_zero, List.set_cons_succ, i64_w, i32_w]
                  rfl
                 refine pure_ (i := 2) (N := some 111) (v := ?_) (a' := ?_) #[true, true, true, false, false, false, false, false, false, false] rfl rfl (any_of HT_.out (by kernel_rfl)) (fun _ _ _ h => h) (Or.inl ⟨by rfl, ?_⟩) ?_ ?_
                 rotate_left
                 ·intro w'
                  go_simp
                  with_reducible rfl
                 rotate_left
                 ·simp only [Act.put, List.setIfInBounds_toArray, List.set_cons_zero, List.set_cons_succ, i64_w, i32_w]
                  rfl
                 refine take_ (i := 3) (N := some 112) (v := ?_) (a' := ?_) #[true, true, true, true, false, false, false, false, false, false] rfl rfl (take_ofW HT_.out HW_.out (by kernel_rfl)) (fun _ _ _ h => h) (Or.inl ⟨by rfl, ?_⟩) hHeld ?_ ?_
                 rotate_left
                 ·rintro w' ⟨s0, s1, s2⟩
                  go_simp
                  with_reducible rfl
                 rotate_left
                 ·simp only [Act.put, List.setIfInBounds_toArray, List.set_cons_zero, List.set_cons_succ, i64_w, i32_w]
                  rfl
                 refine one_ (i := 4) (N := some 113) #[true, true, true, true, true, false, false, false, false, false] rfl rfl (one_of HT_.out (by kernel_rfl)) (by decide) (fun K hK => ?_)
                 refine goes_ Tryd.func23 (by kernel_rfl) rfl #[.slice (some ad178) y180.length co25, .agg #[.int .i64 t161, .bool t162, .bool t163]] (by rfl) rfl rfl (by (try simp only [List.map_toArray, List.map_cons, List.map_nil]); first | done | rfl | (simp only [List.length_drop, List.length_take]; rfl)) ?_
                 with_reducible refine (metric_Width.calls k3 _ _ y180 t161 t162 t163 c4 l4 c5 l5 t184 t185 _ ?side1 ?side2 ?side3 ?side4 ?side5 ?side6 A53.out).mono ?_
                 (case side1 => repeat (first | exact (by repeat (first | (with_reducible exact HR183.out) | (with_reducible refine Kd.C_alloc ?_ _) | (with_reducible refine Kd.C_drewN ?_ _) | (with_reducible refine Kd.C_drew ?_) | exact HR183.out)) | (with_reducible refine Kd.C_alloc ?_ _) | (with_reducible refine Kd.C_drewN ?_ _) | (with_reducible refine Kd.C_drew ?_)))
                 (case side2 => exact HC183.out)
                 (case side3 => repeat (first | exact (Kd.C_below HR4.out HB.out) | (with_reducible refine Kd.C_alloc ?_ _) | (with_reducible refine Kd.C_drewN ?_ _) | (with_reducible refine Kd.C_drew ?_)))
                 (case side4 => exact HC4.out)
                 (case side5 => repeat (first | exact (Kd.C_below HR5.out HB.out) | (with_reducible refine Kd.C_alloc ?_ _) | (with_reducible refine Kd.C_drewN ?_ _) | (with_reducible refine Kd.C_drew ?_)))
                 (case side6 => exact HC5.out)
                 rintro e w57 ⟨rfl, hb⟩
                 refine ⟨_, rfl, ?_⟩
                 have n0_ := Aside0.mk (Kd.R_below (by (with_reducible repeat (first | apply Kd.R_alloc | apply Kd.R_drewN | apply Kd.R_drew)); exact HO_0.out) hb)
                 have n1_ := Aside0.mk (blk_below (g := gb156) (o := .cells #[.int .i64 t161, .bool t162, .bool t163] 56 (0, 0)) (by (with_reducible repeat (first | refine blk_drewN ?_ _ | refine blk_drew ?_ | refine blk_alloc ?_ _)); exact BK156.out) hb)
                 have n2_ := Aside0.mk (Kd.C_below (by repeat (first | (with_reducible exact HR175.out) | (with_reducible refine Kd.C_alloc ?_ _) | (with_reducible refine Kd.C_drewN ?_ _) | (with_reducible refine Kd.C_drew ?_) | exact HR175.out)) hb)
                 have n3_ := Aside0.mk (Kd.C_below (by repeat (first | (with_reducible exact HR183.out) | (with_reducible refine Kd.C_alloc ?_ _) | (with_reducible refine Kd.C_drewN ?_ _) | (with_reducible refine Kd.C_drew ?_) | exact HR183.out)) hb)
                 have n4_ := Aside0.mk (below_step (by repeat (first | (with_reducible first | exact HB.out | apply below_alloc | apply pw_below_drewN | apply below_drew1 | refine below_set ?_ GE156.out) | exact HB.out)) hb)
                 clear HO_0
                 clear BK156
                 clear HR175
                 clear HR183
                 clear HB
                 have HO_0 := n0_
                 have BK156 := n1_
                 have HR175 := n2_
                 have HR183 := n3_
                 have HB := n4_
                 clear n0_ n1_ n2_ n3_ n4_
                 (try clear hb)
                 (try clear hb2)
                 (try clear hk)
                 (try clear hi)
                 refine hK.out _ _ ⟨(blk_cell BK156.out 0).trans rfl, (blk_cell BK156.out 1).trans rfl, (blk_cell BK156.out 2).trans rfl⟩ (fun hHeld => ?_)
                 clear hK K
                 refine norm_ (a' := ?_) ?_ ?_
                 rotate_left
                 ·show Act.put _ (some 113) _ = _
                  simp only [Act.put, List.setIfInBounds_toArray, List.set_cons_zero, List.set_cons_succ, i64_w, i32_w]
                  rfl
                 refine pure_ (i := 5) (N := some 108) (v := ?_) (a' := ?_) #[true, true, true, true, true, true, false, false, false, false] rfl rfl (any_of HT_.out (by kernel_rfl)) (fun _ _ _ h => h) (Or.inl ⟨by rfl, ?_⟩) ?_ ?_
                 rotate_left
                 ·intro w'
                  go_simp
                  with_reducible rfl
                 rotate_left
                 ·simp only [Act.put, List.setIfInBounds_toArray, List.set_cons_zero, List.set_cons_succ, i64_w, i32_w]
                  rfl
                 refine pure_ (i := 6) (N := some 114) (v := ?_) (a' := ?_) #[true, true, true, true, true, true, true, false, false, false] rfl rfl (any_of HT_.out (by kernel_rfl)) (fun _ _ _ h => h) (Or.inl ⟨by rfl, ?_⟩) ?_ ?_
                 rotate_left
                 ·intro w'
                  go_simp
                  with_reducible rfl
                 rotate_left
                 ·simp only [Act.put, List.setIfInBounds_toArray, List.set_cons_zero, List.set_cons_succ, i64_w, i32_w]
                  rfl
                 refine pure_ (i := 7) (N := some 115) (v := ?_) (a' := ?_) #[true, true, true, true, true, true, true, true, false, false] rfl rfl (any_of HT_.out (by kernel_rfl)) (fun _ _ _ h => h) (Or.inl ⟨by rfl, ?_⟩) ?_ ?_
                 rotate_left
                 ·intro w'
                  go_simp
                  with_reducible rfl
                 rotate_left
                 ·simp only [Act.put, List.setIfInBounds_toArray, List.set_cons_zero, List.set_cons_succ, i64_w, i32_w]
                  rfl
                 refine pure_ (i := 8) (N := some 18) (v := ?_) (a' := ?_) #[true, true, true, true, true, true, true, true, true, false] rfl rfl (any_of HT_.out (by kernel_rfl)) (fun _ _ _ h => h) (Or.inl ⟨by rfl, ?_⟩) ?_ ?_
                 rotate_left
                 ·intro w'
                  go_simp
                  with_reducible rfl
                 rotate_left
                 ·simp only [Act.put, List.setIfInBounds_toArray, List.set_cons_zero, List.set_cons_succ, i64_w, i32_w]
                  rfl
                 refine pure_ (i := 9) (N := some 19) (v := ?_) (a' := ?_) #[true, true, true, true, true, true, true, true, true, true] rfl rfl (any_of HT_.out (by kernel_rfl)) (fun _ _ _ h => h) (Or.inl ⟨by rfl, ?_⟩) ?_ ?_
                 rotate_left
                 ·intro w'
                  go_simp
                  with_reducible rfl
                 rotate_left
                 ·simp only [Act.put, List.setIfInBounds_toArray, List.set_cons_zero, List.set_cons_succ, i64_w, i32_w]
                  rfl
                 refine done_ (done_of HT_.out (by kernel_rfl)) ?_
                 try go_wp2
                 go_ret
                 exact ⟨by first | rfl | (simp [errW_none, errW_some] <;> rfl) | (simp [*, errW_none, errW_some] <;> rfl), by repeat (first | (with_reducible first | exact HB.out | apply below_alloc | apply pw_below_drewN | apply below_drew1 | refine below_set ?_ GE156.out) | exact HB.out)⟩
                ·rw [if_neg c52] at H
                 exact absurd H (by simp)
             ·rw [if_neg c45] at H
              exact absurd H (by simp)
            ·rw [if_neg c44] at H
             have c44b0 : decide (x17_3 < (t158.length : Int)) = false := decide_eq_false c44
             clear c44
             by_cases c58 : t166 = (t158.length : Int)
             ·rw [if_pos c58] at H
              have c58b0 : (t166 == (t158.length : Int)) = true := beq_iff_eq.mpr c58
              have c58b1 : (t166 != (t158.length : Int)) = false := bne_eq_false_iff_eq.mpr c58
              clear c58
              obtain rfl := Option.some.inj H
              go_wp2
              go_ret
              exact ⟨by first | rfl | (simp [errW_none, errW_some] <;> rfl) | (simp [*, errW_none, errW_some] <;> rfl), by repeat (first | (with_reducible first | exact HB.out | apply below_alloc | apply pw_below_drewN | apply below_drew1 | refine below_set ?_ GE156.out) | exact HB.out)⟩
             ·rw [if_neg c58] at H
              have c58b0 : (t166 == (t158.length : Int)) = false := beq_eq_false_iff_ne.mpr c58
              have c58b1 : (t166 != (t158.length : Int)) = true := bne_iff_ne.mpr c58
              by_cases c59 : 0 ≤ x17_3
              ·rw [if_pos c59] at H
               have c59b0 := eq_true c59
               have c59b1 : decide (0 ≤ x17_3) = true := decide_eq_true c59
               clear c59
               by_cases c60 : x17_3 ≤ (t158.length : Int)
               ·rw [if_pos c60] at H
                have c60b0 := eq_true c60
                have c60b1 : decide (x17_3 ≤ (t158.length : Int)) = true := decide_eq_true c60
                clear c60
                obtain ⟨y186, hy186⟩ : ∃ y_ : List Int, y_ = (t158.take (x17_3 : Int).toNat) := ⟨_, rfl⟩
                replace H : ((metric_Width.f k3 y186 t161 t162 t163 l4 l5).bind fun bt190 => (some (decide (bt190.1 > t164)))) = some r := by first | (rw [hy186]; with_reducible exact H) | (have H2_ := (Option.bind_some _ _).symm.trans H; rw [hy186]; with_reducible exact H2_) | (have H2_ := (Option.bind_some _ _).symm.trans H; with_reducible exact H2_) | with_reducible exact H | (rw [hy186]; exact H) | exact H
                have Ny186 := Aside0.mk hy186
                clear hy186
                replace H := Option.bind_eq_some_iff.mp H
                obtain ⟨⟨t190, t191⟩, A610, H⟩ := H
                replace H : (some (decide (t190 > t164))) = some r := H
                have A61 := Aside0.mk A610
                clear A610
                obtain rfl := Option.some.inj H
                try go_wp2
                have n0_ := Aside0.mk (Kd.R_drew HO_0.out)
                have n1_ := Aside0.mk (blk_drew BK156.out)
                have n2_ := Aside0.mk (Kd.C_drew HR175.out)
                have n3_ := Aside0.mk (below_drew1 HB.out)
                clear HO_0
                clear BK156
                clear HR175
                clear HB
                have HO_0 := n0_
                have BK156 := n1_
                have HR175 := n2_
                have HB := n3_
                clear n0_ n1_ n2_ n3_
                have q63 : (x17_3 : Int) ≤ ((t158.length : Int) : Int) := of_decide_eq_true (by first | (with_reducible assumption) | assumption)
                obtain ⟨i063, hi063, _, hsz63, _⟩ := info_parts info3
                have hroom63 : t158.length ≤ co25 := (Kd.R_reads' HO_0.out).2.1
                have hC63 : Kd.C (Kd.int .i64) _ Ao25 t158.length t158 := (Kd.R_reads' HO_0.out).2.2
                have hcut63 := cut_to (P := Tryd.prog) 22 3 .i64 Tryd.underlying22 hi063 Ao25 t158.length co25 x17_3 (of_decide_eq_true (by first | (with_reducible assumption) | assumption)) q63 hroom63
                have hr63 := Kd.C_take (m := (x17_3 : Int).toNat) hC63 (by omega)
                have hy63 : y186.length = (x17_3 : Int).toNat := (by rw [Ny186.out, List.length_take]; omega)
                rw [← Ny186.out] at hr63
                rw [← hy63] at hcut63
                have HR189 := Aside0.mk hr63
                have HC189 := Aside0.mk (show y186.length ≤ co25 from by omega)
                clear hr63 hC63 hroom63 hi063 hsz63
                have KY63 := Aside0.mk hy63
                clear hy63
                have KL63 := Aside0.mk (show (x17_3 : Int).toNat ≤ t158.length from by omega)
                replace q63 := eq_true q63
                refine start_ (n := 10) (S := fun w' => w'.cell? ⟨gb156, 0, none⟩ = some (.int .i64 t161) ∧ w'.cell? ⟨gb156, 1, none⟩ = some (.bool t162) ∧ w'.cell? ⟨gb156, 2, none⟩ = some (.bool t163)) (ds := []) #[false, false, false, false, false, false, false, false, false, false] (by kernel_rfl) rfl rfl ⟨(blk_cell BK156.out 0).trans rfl, (blk_cell BK156.out 1).trans rfl, (blk_cell BK156.out 2).trans rfl⟩ (fun hHeld => ?_); refine with_tabW ck_MetricFitNarrows.tab17 ck_MetricFitNarrows.bits17 (fun HT_ HW_ => ?_)
                generalize wr.drew = w62 at HO_0 BK156 HR175 HB HR189 hHeld ⊢
                refine pure_ (i := 0) (N := some 109) (v := ?_) (a' := ?_) #[true, false, false, false, false, false, false, false, false, false] rfl rfl (any_of HT_.out (by kernel_rfl)) (fun _ _ _ h => h) (Or.inl ⟨by rfl, ?_⟩) ?_ ?_
                rotate_left
                ·intro w'
                 go_simp
                 with_reducible rfl
                rotate_left
                ·simp only [Act.put, List.setIfInBounds_toArray, List.set_cons_zero, List.set_cons_succ, i64_w, i32_w]
                 rfl
                refine pure_ (i := 1) (N := some 110) (v := ?_) (a' := ?_) #[true, true, false, false, false, false, false, false, false, false] rfl rfl (any_of HT_.out (by kernel_rfl)) (fun _ _ _ h => h) (Or.inl ⟨by rfl, ?_⟩) ?_ ?_
                rotate_left
                ·intro w'
                 go_simp
                 with_reducible rfl
                rotate_left
                ·simp only [Act.put, List.setIfInBounds_toArray, List.set_cons_zero, List.set_cons_succ, i64_w, i32_w]
                 rfl
                refine pure_ (i := 2) (N := some 111) (v := ?_) (a' := ?_) #[true, true, true, false, false, false, false, false, false, false] rfl rfl (any_of HT_.out (by kernel_rfl)) (fun _ _ _ h => h) (Or.inl ⟨by rfl, ?_⟩) ?_ ?_
                rotate_left
                ·intro w'
                 go_simp
                 with_reducible rfl
                rotate_left
                ·simp only [Act.put, List.setIfInBounds_toArray, List.set_cons_zero, List.set_cons_succ, i64_w, i32_w]
                 rfl
                refine take_ (i := 3) (N := some 112) (v := ?_) (a' := ?_) #[true, true, true, true, false, false, false, false, false, false] rfl rfl (take_ofW HT_.out HW_.out (by kernel_rfl)) (fun _ _ _ h => h) (Or.inl ⟨by rfl, ?_⟩) hHeld ?_ ?_
                rotate_left
                ·rintro w' ⟨s0, s1, s2⟩
                 go_simp
                 with_reducible rfl
                rotate_left
                ·simp only [Act.put, List.setIfInBounds_toArray, List.set_cons_zero, List.set_cons_succ, i64_w, i32_w]
                 rfl
                refine one_ (i := 4) (N := some 113) #[true, true, true, true, true, false, false, false, false, false] rfl rfl (one_of HT_.out (by kernel_rfl)) (by decide) (fun K hK => ?_)
                refine goes_ Tryd.func23 (by kernel_rfl) rfl #[.slice Ao25 y186.length co25, .agg #[.int .i64 t161, .bool t162, .bool t163]] (by rfl) rfl rfl (by (try simp only [List.map_toArray, List.map_cons, List.map_nil]); first | done | rfl | (simp only [List.length_drop, List.length_take]; rfl)) ?_
                with_reducible refine (metric_Width.calls k3 _ _ y186 t161 t162 t163 c4 l4 c5 l5 t190 t191 _ ?side1 ?side2 ?side3 ?side4 ?side5 ?side6 A61.out).mono ?_
                (case side1 => repeat (first | exact (by repeat (first | (with_reducible exact HR189.out) | (with_reducible refine Kd.C_alloc ?_ _) | (with_reducible refine Kd.C_drewN ?_ _) | (with_reducible refine Kd.C_drew ?_) | exact HR189.out)) | (with_reducible refine Kd.C_alloc ?_ _) | (with_reducible refine Kd.C_drewN ?_ _) | (with_reducible refine Kd.C_drew ?_)))
                (case side2 => exact HC189.out)
                (case side3 => repeat (first | exact (Kd.C_below HR4.out HB.out) | (with_reducible refine Kd.C_alloc ?_ _) | (with_reducible refine Kd.C_drewN ?_ _) | (with_reducible refine Kd.C_drew ?_)))
                (case side4 => exact HC4.out)
                (case side5 => repeat (first | exact (Kd.C_below HR5.out HB.out) | (with_reducible refine Kd.C_alloc ?_ _) | (with_reducible refine Kd.C_drewN ?_ _) | (with_reducible refine Kd.C_drew ?_)))
                (case side6 => exact HC5.out)
                rintro e w64 ⟨rfl, hb⟩
                refine ⟨_, rfl, ?_⟩
                have n0_ := Aside0.mk (Kd.R_below (by (with_reducible repeat (first | apply Kd.R_alloc | apply Kd.R_drewN | apply Kd.R_drew)); exact HO_0.out) hb)
                have n1_ := Aside0.mk (blk_below (g := gb156) (o := .cells #[.int .i64 t161, .bool t162, .bool t163] 56 (0, 0)) (by (with_reducible repeat (first | refine blk_drewN ?_ _ | refine blk_drew ?_ | refine blk_alloc ?_ _)); exact BK156.out) hb)
                have n2_ := Aside0.mk (Kd.C_below (by repeat (first | (with_reducible exact HR175.out) | (with_reducible refine Kd.C_alloc ?_ _) | (with_reducible refine Kd.C_drewN ?_ _) | (with_reducible refine Kd.C_drew ?_) | exact HR175.out)) hb)
                have n3_ := Aside0.mk (Kd.C_below (by repeat (first | (with_reducible exact HR189.out) | (with_reducible refine Kd.C_alloc ?_ _) | (with_reducible refine Kd.C_drewN ?_ _) | (with_reducible refine Kd.C_drew ?_) | exact HR189.out)) hb)
                have n4_ := Aside0.mk (below_step (by repeat (first | (with_reducible first | exact HB.out | apply below_alloc | apply pw_below_drewN | apply below_drew1 | refine below_set ?_ GE156.out) | exact HB.out)) hb)
                clear HO_0
                clear BK156
                clear HR175
                clear HR189
                clear HB
                have HO_0 := n0_
                have BK156 := n1_
                have HR175 := n2_
                have HR189 := n3_
                have HB := n4_
                clear n0_ n1_ n2_ n3_ n4_
                (try clear hb)
                (try clear hb2)
                (try clear hk)
                (try clear hi)
                refine hK.out _ _ ⟨(blk_cell BK156.out 0).trans rfl, (blk_cell BK156.out 1).trans rfl, (blk_cell BK156.out 2).trans rfl⟩ (fun hHeld => ?_)
                clear hK K
                refine norm_ (a' := ?_) ?_ ?_
                rotate_left
                ·show Act.put _ (some 113) _ = _
                 simp only [Act.put, List.setIfInBounds_toArray, List.set_cons_zero, List.set_cons_succ, i64_w, i32_w]
                 rfl
                refine pure_ (i := 5) (N := some 108) (v := ?_) (a' := ?_) #[true, true, true, true, true, true, false, false, false, false] rfl rfl (any_of HT_.out (by kernel_rfl)) (fun _ _ _ h => h) (Or.inl ⟨by rfl, ?_⟩) ?_ ?_
                rotate_left
                ·intro w'
                 go_simp
                 with_reducible rfl
                rotate_left
                ·simp only [Act.put, List.setIfInBounds_toArray, List.set_cons_zero, List.set_cons_succ, i64_w, i32_w]
                 rfl
                refine pure_ (i := 6) (N := some 114) (v := ?_) (a' := ?_) #[true, true, true, true, true, true, true, false, false, false] rfl rfl (any_of HT_.out (by kernel_rfl)) (fun _ _ _ h => h) (Or.inl ⟨by rfl, ?_⟩) ?_ ?_
                rotate_left
                ·intro w'
                 go_simp
                 with_reducible rfl
                rotate_left
                ·simp only [Act.put, List.setIfInBounds_toArray, List.set_cons_zero, List.set_cons_succ, i64_w, i32_w]
                 rfl
                refine pure_ (i := 7) (N := some 115) (v := ?_) (a' := ?_) #[true, true, true, true, true, true, true, true, false, false] rfl rfl (any_of HT_.out (by kernel_rfl)) (fun _ _ _ h => h) (Or.inl ⟨by rfl, ?_⟩) ?_ ?_
                rotate_left
                ·intro w'
                 go_simp
                 with_reducible rfl
                rotate_left
                ·simp only [Act.put, List.setIfInBounds_toArray, List.set_cons_zero, List.set_cons_succ, i64_w, i32_w]
                 rfl
                refine pure_ (i := 8) (N := some 18) (v := ?_) (a' := ?_) #[true, true, true, true, true, true, true, true, true, false] rfl rfl (any_of HT_.out (by kernel_rfl)) (fun _ _ _ h => h) (Or.inl ⟨by rfl, ?_⟩) ?_ ?_
                rotate_left
                ·intro w'
                 go_simp
                 with_reducible rfl
                rotate_left
                ·simp only [Act.put, List.setIfInBounds_toArray, List.set_cons_zero, List.set_cons_succ, i64_w, i32_w]
                 rfl
                refine pure_ (i := 9) (N := some 19) (v := ?_) (a' := ?_) #[true, true, true, true, true, true, true, true, true, true] rfl rfl (any_of HT_.out (by kernel_rfl)) (fun _ _ _ h => h) (Or.inl ⟨by rfl, ?_⟩) ?_ ?_
                rotate_left
                ·intro w'
                 go_simp
                 with_reducible rfl
                rotate_left
                ·simp only [Act.put, List.setIfInBounds_toArray, List.set_cons_zero, List.set_cons_succ, i64_w, i32_w]
                 rfl
                refine done_ (done_of HT_.out (by kernel_rfl)) ?_
                try go_wp2
                go_ret
                exact ⟨by first | rfl | (simp [errW_none, errW_some] <;> rfl) | (simp [*, errW_none, errW_some] <;> rfl), by repeat (first | (with_reducible first | exact HB.out | apply below_alloc | apply pw_below_drewN | apply below_drew1 | refine below_set ?_ GE156.out) | exact HB.out)⟩
               ·rw [if_neg c60] at H
                exact absurd H (by simp)
              ·rw [if_neg c59] at H
               exact absurd H (by simp)
      ·rw [if_neg c36] at H
       exact absurd H (by simp)
     ·rw [if_neg c35] at H
      exact absurd H (by simp)
 ·replace c8 := Bool.eq_false_iff.mpr c8
  subst c8
  have H1 : (some false) = some r := by rw [if_neg (show ¬ (false = true) by decide)] at H; exact H
  clear H
  have H := H1
  clear H1
  obtain rfl := Option.some.inj H
  go_enter Tryd.func7, Tryd.ntmps7
  go_wp2_with (first | ((with_reducible refine gate_dst (N := 5) rfl ?_); (try (refine gate_guard (by rfl) ?_; dsimp only)); refine box_event ?hg (N := 5) ?hd (cs := #[.int .i64 a1_0, .bool a1_1, .bool a1_2]) (t := 56) ?hr ?_; (case hd => rfl); (case hg => rfl); (case hr => first | (go_simp; done) | (go_simp; rfl)); intro gb156 hg w65 hbox hb; have n0_ := Aside0.mk (below_step (by repeat (first | (with_reducible first | exact HB.out | apply below_alloc | apply pw_below_drewN | apply below_drew1) | exact HB.out)) hb); have n1_ := Aside0.mk (hbox); have n2_ := Aside0.mk ((by rw [hg]; exact (below_size (by repeat (first | (with_reducible first | exact HB.out | apply below_alloc | apply pw_below_drewN | apply below_drew1) | exact HB.out))) : w.heap.size ≤ gb156)); have n3_ := Aside0.mk ((by rw [hg]; exact (below_size (by repeat (first | (with_reducible first | exact HB.out | apply below_alloc | apply pw_below_drewN | apply below_drew1) | exact HB.out))) : w.heap.size ≤ gb156)); clear HB; have HB := n0_; have BK156 := n1_; have GW156 := n2_; have GE156 := n3_; clear n0_ n1_ n2_ n3_; clear hb hbox hg) | ((with_reducible refine gate_callee (f := 20) rfl ?_); refine goesL_ (some 20) rfl rfl Tryd.func20 (by kernel_rfl) rfl #[] rfl (by (try simp only [List.map_toArray, List.map_cons, List.map_nil]); first | done | rfl | (simp only [List.length_drop, List.length_take]; rfl)) ?_; (with_reducible refine (ck_metrics.calls k c4 l4 c5 l5 false _ ?side1 ?side2 ?side3 ?side4 A7.out).mono ?_); (case side1 => repeat (first | exact (Kd.C_below HR4.out HB.out) | (with_reducible refine Kd.C_alloc ?_ _) | (with_reducible refine Kd.C_drewN ?_ _) | (with_reducible refine Kd.C_drew ?_))); (case side2 => exact HC4.out); (case side3 => repeat (first | exact (Kd.C_below HR5.out HB.out) | (with_reducible refine Kd.C_alloc ?_ _) | (with_reducible refine Kd.C_drewN ?_ _) | (with_reducible refine Kd.C_drew ?_))); (case side4 => exact HC5.out); rintro e w66 ⟨rfl, hb⟩; refine ⟨_, rfl, ?_⟩; have n0_ := Aside0.mk (blk_below (g := gb156) (o := .cells #[.int .i64 a1_0, .bool a1_1, .bool a1_2] 56 (0, 0)) (by (with_reducible repeat (first | refine blk_drewN ?_ _ | refine blk_drew ?_ | refine blk_alloc ?_ _)); exact BK156.out) hb); have n1_ := Aside0.mk (below_step (by repeat (first | (with_reducible first | exact HB.out | apply below_alloc | apply pw_below_drewN | apply below_drew1 | refine below_set ?_ GE156.out) | exact HB.out)) hb); clear BK156; clear HB; have BK156 := n0_; have HB := n1_; clear n0_ n1_; (try clear hb); (try clear hb2); (try clear hk); (try clear hi)))
  go_ret
  exact ⟨by first | rfl | (simp [errW_none, errW_some] <;> rfl) | (simp [*, errW_none, errW_some] <;> rfl), by repeat (first | (with_reducible first | exact HB.out | apply below_alloc | apply pw_below_drewN | apply below_drew1 | refine below_set ?_ GE156.out) | exact HB.out)⟩

end Go.Proofs.YtohaoaiffneamaaDoor.QMetricFitNarrows
