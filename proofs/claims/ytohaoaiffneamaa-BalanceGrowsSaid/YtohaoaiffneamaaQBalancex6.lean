-- Written by a program of this session (myprint.py) for this claim: contracts of the functions that the law reaches. Not trusted: Lean checks it.
import Derived.Test.YtohaoaiffneamaaQBalancex0
import Derived.Test.YtohaoaiffneamaaQBalancex1
import Derived.Test.YtohaoaiffneamaaQBalancex2
import Derived.Test.YtohaoaiffneamaaQBalancex4
import Derived.Test.YtohaoaiffneamaaQBalancex5
namespace Go.Proofs.Ytohaoaiffneamaa.QBalance
open Go.RowKit Go.Proofs.YtohaoaiffneamaaW.PrintWords Go.Proofs.YtohaoaiffneamaaW.PrintLast Go.Proofs.YtohaoaiffneamaaW.PrintMore
attribute [local go_sem] max2_int min2_int max_two min_two max_three min_three max_four min_four   -- for this text's walks alone
set_option linter.unusedVariables false
set_option linter.unusedSimpArgs false

/-! ### ck_BalanceAddsUp: function 8 -/
mutual
def ck_BalanceAddsUp.j0 : Nat → Int → List (S80) → Int → Bool → Option (Bool)
 | 0, _, _, _, _ => none
 | k + 1, x0, x1, x2, x36 => if x36 = true then (some false) else ((ck_within.f x0 1 8).bind fun t173 => ((ck_cells.f k t173 x1).bind fun t174 => ((ck_within.f x2 0 31680).bind fun t177 => ((balance_Needs.f k t173 t174).bind fun bt178 => ((balance_Widths.f k t173 t174 t177).bind fun bt185 => (if bt178.2.2 = 0 then (if bt185.2 = 0 then (if (bt185.1.length : Int) = t173 then (if (bt178.1.length : Int) = t173 then (ck_BalanceAddsUp.j1 k t174 t177 bt178.1 bt178.2.1 bt185.1 ((bt178.2.1.length : Int) != t173)) else (ck_BalanceAddsUp.j1 k t174 t177 bt178.1 bt178.2.1 bt185.1 true)) else (ck_BalanceAddsUp.j1 k t174 t177 bt178.1 bt178.2.1 bt185.1 true)) else (ck_BalanceAddsUp.j1 k t174 t177 bt178.1 bt178.2.1 bt185.1 true)) else (ck_BalanceAddsUp.j1 k t174 t177 bt178.1 bt178.2.1 bt185.1 true)))))))
def ck_BalanceAddsUp.j1 : Nat → List (S80) → Int → List Int → List Int → List Int → Bool → Option (Bool)
 | 0, _, _, _, _, _, _ => none
 | k + 1, x1, x2, x9, x10, x12, x81 => if x81 = true then (some false) else (ck_BalanceAddsUp.l0 k x1 x2 x9 x10 x12 0 0 0 (x12.length : Int) 0)
def ck_BalanceAddsUp.l0 : Nat → List (S80) → Int → List Int → List Int → List Int → Int → Int → Int → Int → Int → Option (Bool)
 | 0, _, _, _, _, _, _, _, _, _, _ => none
 | k + 1, x1, x2, x9, x10, x12, x14, x15, x16, x83, x84 => if x84 < x83 then (if 0 ≤ x84 then (if x84 < (x9.length : Int) then (if x84 < (x10.length : Int) then (if x84 < (x12.length : Int) then (ck_BalanceAddsUp.l0 k x1 x2 x9 x10 x12 (wrap64 (x14 + (rd x9 x84))) (wrap64 (x15 + (rd x10 x84))) (wrap64 (x16 + (rd x12 x84))) x83 (wrap64 (x84 + 1))) else (none)) else (none)) else (none)) else (none)) else (ck_BalanceAddsUp.l1 k x1 x2 x9 x10 x12 x14 x15 x16 (x12.length : Int) 0)
def ck_BalanceAddsUp.l1 : Nat → List (S80) → Int → List Int → List Int → List Int → Int → Int → Int → Int → Int → Option (Bool)
 | 0, _, _, _, _, _, _, _, _, _, _ => none
 | k + 1, x1, x2, x9, x10, x12, x14, x15, x16, x107, x108 => if x108 < x107 then (if 0 ≤ x108 then (if x108 < (x12.length : Int) then (if x108 < (x9.length : Int) then (if (rd x12 x108) < (rd x9 x108) then (some false) else (if x2 ≤ x15 then (if x108 < (x10.length : Int) then (if (rd x12 x108) > (rd x10 x108) then (some false) else (ck_BalanceAddsUp.l1 k x1 x2 x9 x10 x12 x14 x15 x16 x107 (wrap64 (x108 + 1)))) else (none)) else (ck_BalanceAddsUp.l1 k x1 x2 x9 x10 x12 x14 x15 x16 x107 (wrap64 (x108 + 1))))) else (none)) else (none)) else (none)) else (ck_BalanceAddsUp.l2 k x2 x12 x14 x15 x16 x1 (x1.length : Int) 0)
def ck_BalanceAddsUp.l2 : Nat → Int → List Int → Int → Int → Int → List (S80) → Int → Int → Option (Bool)
 | 0, _, _, _, _, _, _, _, _ => none
 | k + 1, x2, x12, x14, x15, x16, x137, x138, x139 => if x139 < x138 then (if 0 ≤ x139 then (if x139 < (x137.length : Int) then (if 0 ≤ ((rd_T80 x137 x139).f0) then (if ((rd_T80 x137 x139).f0) ≤ (wrap64 (((rd_T80 x137 x139).f0) + ((rd_T80 x137 x139).f1))) then (if (wrap64 (((rd_T80 x137 x139).f0) + ((rd_T80 x137 x139).f1))) ≤ (x12.length : Int) then ((some ((x12.take ((wrap64 (((rd_T80 x137 x139).f0) + ((rd_T80 x137 x139).f1))) : Int).toNat).drop (((rd_T80 x137 x139).f0) : Int).toNat : List Int)).bind fun y198 => (ck_BalanceAddsUp.l3 k x2 x12 x14 x15 x16 0 x137 x138 x139 y198 (y198.length : Int) 0 ((rd_T80 x137 x139).f0) ((rd_T80 x137 x139).f1) ((rd_T80 x137 x139).f2) ((rd_T80 x137 x139).f3))) else (none)) else (none)) else (none)) else (none)) else (none)) else (if x2 = 0 then (some (x16 == x15)) else (some (x16 == (mx x2 x14))))
def ck_BalanceAddsUp.l3 : Nat → Int → List Int → Int → Int → Int → Int → List (S80) → Int → Int → List Int → Int → Int → Int → Int → Int → Int → Option (Bool)
 | 0, _, _, _, _, _, _, _, _, _, _, _, _, _, _, _, _ => none
 | k + 1, x2, x12, x14, x15, x16, x21, x137, x138, x139, x151, x152, x153, x198000, x198001, x198002, x198003 => if x153 < x152 then (if 0 ≤ x153 then (if x153 < (x151.length : Int) then (ck_BalanceAddsUp.l3 k x2 x12 x14 x15 x16 (wrap64 (x21 + (rd x151 x153))) x137 x138 x139 x151 x152 (wrap64 (x153 + 1)) x198000 x198001 x198002 x198003) else (none)) else (none)) else (if x21 < x198002 then (some false) else (ck_BalanceAddsUp.l2 k x2 x12 x14 x15 x16 x137 x138 (wrap64 (x139 + 1))))
end
def ck_BalanceAddsUp.f (k : Nat) (a0 : Int) (l1 : List (S80)) (a2 : Int) : Option (Bool) := (balance_Widths.f k 2 ([] : List (S80)) 5).bind fun bt165 => (if bt165.2 = 0 then ((slices_Equal_int_int.f k bt165.1 (([3, 2] : List Int))).bind fun t172 => (ck_BalanceAddsUp.j0 k a0 l1 a2 (!t172))) else (ck_BalanceAddsUp.j0 k a0 l1 a2 true))
theorem ck_BalanceAddsUp.mono_l : ∀ k, (∀ y0 y1 y2 y3, LeO (ck_BalanceAddsUp.j0 k y0 y1 y2 y3) (ck_BalanceAddsUp.j0 (k + 1) y0 y1 y2 y3)) ∧ (∀ y0 y1 y2 y3 y4 y5, LeO (ck_BalanceAddsUp.j1 k y0 y1 y2 y3 y4 y5) (ck_BalanceAddsUp.j1 (k + 1) y0 y1 y2 y3 y4 y5)) ∧ (∀ y0 y1 y2 y3 y4 y5 y6 y7 y8 y9, LeO (ck_BalanceAddsUp.l0 k y0 y1 y2 y3 y4 y5 y6 y7 y8 y9) (ck_BalanceAddsUp.l0 (k + 1) y0 y1 y2 y3 y4 y5 y6 y7 y8 y9)) ∧ (∀ y0 y1 y2 y3 y4 y5 y6 y7 y8 y9, LeO (ck_BalanceAddsUp.l1 k y0 y1 y2 y3 y4 y5 y6 y7 y8 y9) (ck_BalanceAddsUp.l1 (k + 1) y0 y1 y2 y3 y4 y5 y6 y7 y8 y9)) ∧ (∀ y0 y1 y2 y3 y4 y5 y6 y7, LeO (ck_BalanceAddsUp.l2 k y0 y1 y2 y3 y4 y5 y6 y7) (ck_BalanceAddsUp.l2 (k + 1) y0 y1 y2 y3 y4 y5 y6 y7)) ∧ (∀ y0 y1 y2 y3 y4 y5 y6 y7 y8 y9 y10 y11 y12 y13 y14 y15, LeO (ck_BalanceAddsUp.l3 k y0 y1 y2 y3 y4 y5 y6 y7 y8 y9 y10 y11 y12 y13 y14 y15) (ck_BalanceAddsUp.l3 (k + 1) y0 y1 y2 y3 y4 y5 y6 y7 y8 y9 y10 y11 y12 y13 y14 y15))
 | 0 => ⟨fun _ _ _ _ r h => by simp [ck_BalanceAddsUp.j0] at h, fun _ _ _ _ _ _ r h => by simp [ck_BalanceAddsUp.j1] at h, fun _ _ _ _ _ _ _ _ _ _ r h => by simp [ck_BalanceAddsUp.l0] at h, fun _ _ _ _ _ _ _ _ _ _ r h => by simp [ck_BalanceAddsUp.l1] at h, fun _ _ _ _ _ _ _ _ r h => by simp [ck_BalanceAddsUp.l2] at h, fun _ _ _ _ _ _ _ _ _ _ _ _ _ _ _ _ r h => by simp [ck_BalanceAddsUp.l3] at h⟩
 | k + 1 => by
  obtain ⟨ih0, ih1, ih2, ih3, ih4, ih5⟩ := ck_BalanceAddsUp.mono_l k
  refine ⟨?_, ?_, ?_, ?_, ?_, ?_⟩
  ·intro y0 y1 y2 y3
   unfold ck_BalanceAddsUp.j0
   repeat' first
   | (with_reducible exact ih0 _ _ _ _)
   | (with_reducible exact ih1 _ _ _ _ _ _)
   | (with_reducible exact ih2 _ _ _ _ _ _ _ _ _ _)
   | (with_reducible exact ih3 _ _ _ _ _ _ _ _ _ _)
   | (with_reducible exact ih4 _ _ _ _ _ _ _ _)
   | (with_reducible exact ih5 _ _ _ _ _ _ _ _ _ _ _ _ _ _ _ _)
   | (with_reducible exact balance_Needs.mono _ _ _)
   | (with_reducible exact balance_Widths.mono _ _ _ _)
   | (with_reducible exact ck_cells.mono _ _ _)
   | (with_reducible exact slices_Equal_int_int.mono _ _ _)
   | (with_reducible exact LeO.refl _)
   | (with_reducible exact LeO.none _)
   | (with_reducible refine LeO.ite ?_ ?_)
   | (with_reducible refine LeO.bind ?_ (fun _ => ?_))
   | exact ih0 _ _ _ _
   | exact ih1 _ _ _ _ _ _
   | exact ih2 _ _ _ _ _ _ _ _ _ _
   | exact ih3 _ _ _ _ _ _ _ _ _ _
   | exact ih4 _ _ _ _ _ _ _ _
   | exact ih5 _ _ _ _ _ _ _ _ _ _ _ _ _ _ _ _
   | exact balance_Needs.mono _ _ _
   | exact balance_Widths.mono _ _ _ _
   | exact ck_cells.mono _ _ _
   | exact slices_Equal_int_int.mono _ _ _
   | exact LeO.none _
   | refine LeO.ite ?_ ?_
   | refine LeO.bind ?_ (fun _ => ?_)
  ·intro y0 y1 y2 y3 y4 y5
   unfold ck_BalanceAddsUp.j1
   repeat' first
   | (with_reducible exact ih0 _ _ _ _)
   | (with_reducible exact ih1 _ _ _ _ _ _)
   | (with_reducible exact ih2 _ _ _ _ _ _ _ _ _ _)
   | (with_reducible exact ih3 _ _ _ _ _ _ _ _ _ _)
   | (with_reducible exact ih4 _ _ _ _ _ _ _ _)
   | (with_reducible exact ih5 _ _ _ _ _ _ _ _ _ _ _ _ _ _ _ _)
   | (with_reducible exact balance_Needs.mono _ _ _)
   | (with_reducible exact balance_Widths.mono _ _ _ _)
   | (with_reducible exact ck_cells.mono _ _ _)
   | (with_reducible exact slices_Equal_int_int.mono _ _ _)
   | (with_reducible exact LeO.refl _)
   | (with_reducible exact LeO.none _)
   | (with_reducible refine LeO.ite ?_ ?_)
   | (with_reducible refine LeO.bind ?_ (fun _ => ?_))
   | exact ih0 _ _ _ _
   | exact ih1 _ _ _ _ _ _
   | exact ih2 _ _ _ _ _ _ _ _ _ _
   | exact ih3 _ _ _ _ _ _ _ _ _ _
   | exact ih4 _ _ _ _ _ _ _ _
   | exact ih5 _ _ _ _ _ _ _ _ _ _ _ _ _ _ _ _
   | exact balance_Needs.mono _ _ _
   | exact balance_Widths.mono _ _ _ _
   | exact ck_cells.mono _ _ _
   | exact slices_Equal_int_int.mono _ _ _
   | exact LeO.none _
   | refine LeO.ite ?_ ?_
   | refine LeO.bind ?_ (fun _ => ?_)
  ·intro y0 y1 y2 y3 y4 y5 y6 y7 y8 y9
   unfold ck_BalanceAddsUp.l0
   repeat' first
   | (with_reducible exact ih0 _ _ _ _)
   | (with_reducible exact ih1 _ _ _ _ _ _)
   | (with_reducible exact ih2 _ _ _ _ _ _ _ _ _ _)
   | (with_reducible exact ih3 _ _ _ _ _ _ _ _ _ _)
   | (with_reducible exact ih4 _ _ _ _ _ _ _ _)
   | (with_reducible exact ih5 _ _ _ _ _ _ _ _ _ _ _ _ _ _ _ _)
   | (with_reducible exact balance_Needs.mono _ _ _)
   | (with_reducible exact balance_Widths.mono _ _ _ _)
   | (with_reducible exact ck_cells.mono _ _ _)
   | (with_reducible exact slices_Equal_int_int.mono _ _ _)
   | (with_reducible exact LeO.refl _)
   | (with_reducible exact LeO.none _)
   | (with_reducible refine LeO.ite ?_ ?_)
   | (with_reducible refine LeO.bind ?_ (fun _ => ?_))
   | exact ih0 _ _ _ _
   | exact ih1 _ _ _ _ _ _
   | exact ih2 _ _ _ _ _ _ _ _ _ _
   | exact ih3 _ _ _ _ _ _ _ _ _ _
   | exact ih4 _ _ _ _ _ _ _ _
   | exact ih5 _ _ _ _ _ _ _ _ _ _ _ _ _ _ _ _
   | exact balance_Needs.mono _ _ _
   | exact balance_Widths.mono _ _ _ _
   | exact ck_cells.mono _ _ _
   | exact slices_Equal_int_int.mono _ _ _
   | exact LeO.none _
   | refine LeO.ite ?_ ?_
   | refine LeO.bind ?_ (fun _ => ?_)
  ·intro y0 y1 y2 y3 y4 y5 y6 y7 y8 y9
   unfold ck_BalanceAddsUp.l1
   repeat' first
   | (with_reducible exact ih0 _ _ _ _)
   | (with_reducible exact ih1 _ _ _ _ _ _)
   | (with_reducible exact ih2 _ _ _ _ _ _ _ _ _ _)
   | (with_reducible exact ih3 _ _ _ _ _ _ _ _ _ _)
   | (with_reducible exact ih4 _ _ _ _ _ _ _ _)
   | (with_reducible exact ih5 _ _ _ _ _ _ _ _ _ _ _ _ _ _ _ _)
   | (with_reducible exact balance_Needs.mono _ _ _)
   | (with_reducible exact balance_Widths.mono _ _ _ _)
   | (with_reducible exact ck_cells.mono _ _ _)
   | (with_reducible exact slices_Equal_int_int.mono _ _ _)
   | (with_reducible exact LeO.refl _)
   | (with_reducible exact LeO.none _)
   | (with_reducible refine LeO.ite ?_ ?_)
   | (with_reducible refine LeO.bind ?_ (fun _ => ?_))
   | exact ih0 _ _ _ _
   | exact ih1 _ _ _ _ _ _
   | exact ih2 _ _ _ _ _ _ _ _ _ _
   | exact ih3 _ _ _ _ _ _ _ _ _ _
   | exact ih4 _ _ _ _ _ _ _ _
   | exact ih5 _ _ _ _ _ _ _ _ _ _ _ _ _ _ _ _
   | exact balance_Needs.mono _ _ _
   | exact balance_Widths.mono _ _ _ _
   | exact ck_cells.mono _ _ _
   | exact slices_Equal_int_int.mono _ _ _
   | exact LeO.none _
   | refine LeO.ite ?_ ?_
   | refine LeO.bind ?_ (fun _ => ?_)
  ·intro y0 y1 y2 y3 y4 y5 y6 y7
   unfold ck_BalanceAddsUp.l2
   repeat' first
   | (with_reducible exact ih0 _ _ _ _)
   | (with_reducible exact ih1 _ _ _ _ _ _)
   | (with_reducible exact ih2 _ _ _ _ _ _ _ _ _ _)
   | (with_reducible exact ih3 _ _ _ _ _ _ _ _ _ _)
   | (with_reducible exact ih4 _ _ _ _ _ _ _ _)
   | (with_reducible exact ih5 _ _ _ _ _ _ _ _ _ _ _ _ _ _ _ _)
   | (with_reducible exact balance_Needs.mono _ _ _)
   | (with_reducible exact balance_Widths.mono _ _ _ _)
   | (with_reducible exact ck_cells.mono _ _ _)
   | (with_reducible exact slices_Equal_int_int.mono _ _ _)
   | (with_reducible exact LeO.refl _)
   | (with_reducible exact LeO.none _)
   | (with_reducible refine LeO.ite ?_ ?_)
   | (with_reducible refine LeO.bind ?_ (fun _ => ?_))
   | exact ih0 _ _ _ _
   | exact ih1 _ _ _ _ _ _
   | exact ih2 _ _ _ _ _ _ _ _ _ _
   | exact ih3 _ _ _ _ _ _ _ _ _ _
   | exact ih4 _ _ _ _ _ _ _ _
   | exact ih5 _ _ _ _ _ _ _ _ _ _ _ _ _ _ _ _
   | exact balance_Needs.mono _ _ _
   | exact balance_Widths.mono _ _ _ _
   | exact ck_cells.mono _ _ _
   | exact slices_Equal_int_int.mono _ _ _
   | exact LeO.none _
   | refine LeO.ite ?_ ?_
   | refine LeO.bind ?_ (fun _ => ?_)
  ·intro y0 y1 y2 y3 y4 y5 y6 y7 y8 y9 y10 y11 y12 y13 y14 y15
   unfold ck_BalanceAddsUp.l3
   repeat' first
   | (with_reducible exact ih0 _ _ _ _)
   | (with_reducible exact ih1 _ _ _ _ _ _)
   | (with_reducible exact ih2 _ _ _ _ _ _ _ _ _ _)
   | (with_reducible exact ih3 _ _ _ _ _ _ _ _ _ _)
   | (with_reducible exact ih4 _ _ _ _ _ _ _ _)
   | (with_reducible exact ih5 _ _ _ _ _ _ _ _ _ _ _ _ _ _ _ _)
   | (with_reducible exact balance_Needs.mono _ _ _)
   | (with_reducible exact balance_Widths.mono _ _ _ _)
   | (with_reducible exact ck_cells.mono _ _ _)
   | (with_reducible exact slices_Equal_int_int.mono _ _ _)
   | (with_reducible exact LeO.refl _)
   | (with_reducible exact LeO.none _)
   | (with_reducible refine LeO.ite ?_ ?_)
   | (with_reducible refine LeO.bind ?_ (fun _ => ?_))
   | exact ih0 _ _ _ _
   | exact ih1 _ _ _ _ _ _
   | exact ih2 _ _ _ _ _ _ _ _ _ _
   | exact ih3 _ _ _ _ _ _ _ _ _ _
   | exact ih4 _ _ _ _ _ _ _ _
   | exact ih5 _ _ _ _ _ _ _ _ _ _ _ _ _ _ _ _
   | exact balance_Needs.mono _ _ _
   | exact balance_Widths.mono _ _ _ _
   | exact ck_cells.mono _ _ _
   | exact slices_Equal_int_int.mono _ _ _
   | exact LeO.none _
   | refine LeO.ite ?_ ?_
   | refine LeO.bind ?_ (fun _ => ?_)
theorem ck_BalanceAddsUp.mono : ∀ a0 a1 a2 k, LeO (ck_BalanceAddsUp.f k a0 a1 a2) (ck_BalanceAddsUp.f (k + 1) a0 a1 a2) := by
 intro a0 a1 a2 k
 obtain ⟨ih0, ih1, ih2, ih3, ih4, ih5⟩ := ck_BalanceAddsUp.mono_l k
 unfold ck_BalanceAddsUp.f
 repeat' first
   | (with_reducible exact ih0 _ _ _ _)
   | (with_reducible exact ih1 _ _ _ _ _ _)
   | (with_reducible exact ih2 _ _ _ _ _ _ _ _ _ _)
   | (with_reducible exact ih3 _ _ _ _ _ _ _ _ _ _)
   | (with_reducible exact ih4 _ _ _ _ _ _ _ _)
   | (with_reducible exact ih5 _ _ _ _ _ _ _ _ _ _ _ _ _ _ _ _)
   | (with_reducible exact balance_Needs.mono _ _ _)
   | (with_reducible exact balance_Widths.mono _ _ _ _)
   | (with_reducible exact ck_cells.mono _ _ _)
   | (with_reducible exact slices_Equal_int_int.mono _ _ _)
   | (with_reducible exact LeO.refl _)
   | (with_reducible exact LeO.none _)
   | (with_reducible refine LeO.ite ?_ ?_)
   | (with_reducible refine LeO.bind ?_ (fun _ => ?_))
   | exact ih0 _ _ _ _
   | exact ih1 _ _ _ _ _ _
   | exact ih2 _ _ _ _ _ _ _ _ _ _
   | exact ih3 _ _ _ _ _ _ _ _ _ _
   | exact ih4 _ _ _ _ _ _ _ _
   | exact ih5 _ _ _ _ _ _ _ _ _ _ _ _ _ _ _ _
   | exact balance_Needs.mono _ _ _
   | exact balance_Widths.mono _ _ _ _
   | exact ck_cells.mono _ _ _
   | exact slices_Equal_int_int.mono _ _ _
   | exact LeO.none _
   | refine LeO.ite ?_ ?_
   | refine LeO.bind ?_ (fun _ => ?_)
set_option maxHeartbeats 8000000 in
set_option maxRecDepth 100000 in
theorem ck_BalanceAddsUp.calls (k : Nat) (a0 : Int) (A1 : Option Addr) (c1 : Nat) (l1 : List (S80)) (a2 : Int) (r : Bool) (w : World) (hr1 : Kd.C k80 w A1 l1.length l1) (hc1 : l1.length ≤ c1) (h : ck_BalanceAddsUp.f k a0 l1 a2 = some r) :
  Calls Try.prog 8 #[.int .i64 a0, .slice A1 l1.length c1, .int .i64 a2] w fun e w' => e = .returned (.bool r) ∧ Below w.heap.size w w' := by
 have hu80 := Try.underlying80
 have HR1 := Aside0.mk hr1
 have HC1 := Aside0.mk hc1
 clear hr1 hc1
 have HB := Aside0.mk (Below.refl w.heap.size w)
 have H : ((balance_Widths.f k 2 ([] : List (S80)) 5).bind fun bt165 => (if bt165.2 = 0 then ((slices_Equal_int_int.f k bt165.1 (([3, 2] : List Int))).bind fun t172 => (ck_BalanceAddsUp.j0 k a0 l1 a2 (!t172))) else (ck_BalanceAddsUp.j0 k a0 l1 a2 true))) = some r := h
 clear h
 replace H := Option.bind_eq_some_iff.mp H
 obtain ⟨⟨t165, t166⟩, A40, H⟩ := H
 replace H : (if t166 = 0 then ((slices_Equal_int_int.f k t165 (([3, 2] : List Int))).bind fun t172 => (ck_BalanceAddsUp.j0 k a0 l1 a2 (!t172))) else (ck_BalanceAddsUp.j0 k a0 l1 a2 true)) = some r := H
 have A4 := Aside0.mk A40
 clear A40
 have HC5 := Aside0.mk H
 clear H
 go_enter Try.func8, Try.ntmps8
 go_upto_region 2 with (first | (go_at_call 27; (refine (balance_Widths.calls k 2 _ _ ([] : List (S80)) 5 t165 t166 _ ?side1 ?side2 A4.out).mono ?_); (case side1 => exact Kd.C_nil _ _); (case side2 => exact Nat.le_refl _); rintro e w6 ⟨v167, rfl, ho0, hb⟩; have n0_ := Aside0.mk (Kd.R_lower ho0 (below_size (by repeat (first | (with_reducible first | exact HB.out | apply below_alloc | apply pw_below_drewN | apply below_drew1) | exact HB.out)))); have n1_ := Aside0.mk (below_step (by repeat (first | (with_reducible first | exact HB.out | apply below_alloc | apply pw_below_drewN | apply below_drew1) | exact HB.out)) hb); clear HB; have HO168 := n0_; have HB := n1_; clear n0_ n1_; (try clear hb); (try clear hb2); (try clear hk); (try clear hi); (try clear ho0)))
 repeat (go_quiet (first | (go_at_call 27; (refine (balance_Widths.calls k 2 _ _ ([] : List (S80)) 5 t165 t166 _ ?side1 ?side2 A4.out).mono ?_); (case side1 => exact Kd.C_nil _ _); (case side2 => exact Nat.le_refl _); rintro e w6 ⟨v167, rfl, ho0, hb⟩; have n0_ := Aside0.mk (Kd.R_lower ho0 (below_size (by repeat (first | (with_reducible first | exact HB.out | apply below_alloc | apply pw_below_drewN | apply below_drew1) | exact HB.out)))); have n1_ := Aside0.mk (below_step (by repeat (first | (with_reducible first | exact HB.out | apply below_alloc | apply pw_below_drewN | apply below_drew1) | exact HB.out)) hb); clear HB; have HO168 := n0_; have HB := n1_; clear n0_ n1_; (try clear hb); (try clear hb2); (try clear hk); (try clear hi); (try clear ho0))); go_upto_region 2 with (first | (go_at_call 27; (refine (balance_Widths.calls k 2 _ _ ([] : List (S80)) 5 t165 t166 _ ?side1 ?side2 A4.out).mono ?_); (case side1 => exact Kd.C_nil _ _); (case side2 => exact Nat.le_refl _); rintro e w6 ⟨v167, rfl, ho0, hb⟩; have n0_ := Aside0.mk (Kd.R_lower ho0 (below_size (by repeat (first | (with_reducible first | exact HB.out | apply below_alloc | apply pw_below_drewN | apply below_drew1) | exact HB.out)))); have n1_ := Aside0.mk (below_step (by repeat (first | (with_reducible first | exact HB.out | apply below_alloc | apply pw_below_drewN | apply below_drew1) | exact HB.out)) hb); clear HB; have HO168 := n0_; have HB := n1_; clear n0_ n1_; (try clear hb); (try clear hb2); (try clear hk); (try clear hi); (try clear ho0))))
 (try simp only [Act.put, List.setIfInBounds_toArray, List.set_cons_zero, List.set_cons_succ])
 go_cut [36] (fun v36 wc => ∃ (kq : Nat) (x36_4 : Bool), v36 = .bool x36_4 ∧ Aside0 (ck_BalanceAddsUp.j0 kq a0 l1 a2 x36_4 = some r) ∧ Aside0 (kq ≤ k) ∧ Aside0 (Below w.heap.size w wc))
 case first =>
  have H := HC5.out
  clear HC5
  by_cases c7 : t166 = 0
  ·rw [if_pos c7] at H
   have c7b0 : (t166 == 0) = true := beq_iff_eq.mpr c7
   have c7b1 : (t166 != 0) = false := bne_eq_false_iff_eq.mpr c7
   clear c7
   (first | rw [c7b0] | (simp only [i64_w, i32_w]; rw [c7b0]) | skip)
   obtain ⟨y169, hy169⟩ : ∃ y_ : List Int, y_ = (([3, 2] : List Int)) := ⟨_, rfl⟩
   replace H : ((slices_Equal_int_int.f k t165 y169).bind fun t172 => (ck_BalanceAddsUp.j0 k a0 l1 a2 (!t172))) = some r := by first | (rw [hy169]; with_reducible exact H) | (have H2_ := (Option.bind_some _ _).symm.trans H; rw [hy169]; with_reducible exact H2_) | (have H2_ := (Option.bind_some _ _).symm.trans H; with_reducible exact H2_) | with_reducible exact H | (rw [hy169]; exact H) | exact H
   have Ny169 := Aside0.mk hy169
   clear hy169
   replace H := Option.bind_eq_some_iff.mp H
   obtain ⟨t172, A80, H⟩ := H
   replace H : (ck_BalanceAddsUp.j0 k a0 l1 a2 (!t172)) = some r := H
   have A8 := Aside0.mk A80
   clear A80
   have H' := Aside0.mk H
   clear H
   go_wp2_with (first | ((with_reducible refine gate_dst (N := 33) rfl ?_); (try (refine gate_guard (by rfl) ?_; dsimp only)); refine Kd.R_lit (Kd.int .i64) _ 3 ?hg (N := 33) ?hd (xs := ([3, 2] : List Int)) (inner := [.int .i64 3, .int .i64 2]) (ok := fun _ => True) (okp := fun _ => True) ?hr ?hp (fun _ hk => hk) trivial (Below.refl _ _) (Nat.le_refl _) (by simp) ?_; (case hd => rfl); (case hg => rfl); (case hr => first | (go_simp; done) | (go_simp; rfl)); (case hp => exact (Reps.one (show Kd.M (Kd.int .i64) _ _ _ 3 [.int .i64 3] from rfl) (Reps.one (show Kd.M (Kd.int .i64) _ _ _ 2 [.int .i64 2] from rfl) (Reps.none _ _)))); intro v170 w9 ho10 hb hg_ hnew_; clear hg_ hnew_; (first | rw [← Ny169.out] at ho10 | (simp only [Int.reduceToNat] at ho10; rw [← Ny169.out] at ho10)); have n0_ := Aside0.mk (Kd.R_elder' (by (with_reducible repeat (first | apply Kd.R_alloc | apply Kd.R_drewN | apply Kd.R_drew)); exact HO168.out) (Kd.R_base ho10) hb); have n1_ := Aside0.mk (Kd.R_lower (Kd.R_new' ho10 (Kd.R_lt (by (with_reducible repeat (first | apply Kd.R_alloc | apply Kd.R_drewN | apply Kd.R_drew)); exact HO168.out))) (below_size (by repeat (first | (with_reducible first | exact HB.out | apply below_alloc | apply pw_below_drewN | apply below_drew1) | exact HB.out)))); have n2_ := Aside0.mk (below_step (by repeat (first | (with_reducible first | exact HB.out | apply below_alloc | apply pw_below_drewN | apply below_drew1) | exact HB.out)) hb); clear HO168; clear HB; have HO168 := n0_; have HO171 := n1_; have HB := n2_; clear n0_ n1_ n2_; clear hb ho10; obtain ⟨Ao11, co11, eo11⟩ := Kd.R_slice HO168.out; subst eo11; obtain ⟨Ao12, co12, eo12⟩ := Kd.R_slice HO171.out; subst eo12) | (go_at_call 16; (with_reducible refine (slices_Equal_int_int.calls k _ _ t165 _ _ y169 t172 _ ?side1 ?side2 ?side3 ?side4 A8.out).mono ?_); (case side1 => repeat (first | exact (Kd.R_reads' HO168.out).2.2 | (with_reducible refine Kd.C_alloc ?_ _) | (with_reducible refine Kd.C_drewN ?_ _) | (with_reducible refine Kd.C_drew ?_))); (case side2 => exact (Kd.R_reads' HO168.out).2.1); (case side3 => repeat (first | exact (Kd.R_reads' HO171.out).2.2 | (with_reducible refine Kd.C_alloc ?_ _) | (with_reducible refine Kd.C_drewN ?_ _) | (with_reducible refine Kd.C_drew ?_))); (case side4 => exact (Kd.R_reads' HO171.out).2.1); rintro e w' ⟨rfl, ⟨nd, rfl⟩⟩; (try first | exact ⟨rfl, _, World.drewN_drewN _ _ _⟩ | exact ⟨rfl, _, Eq.trans (World.drewN_drewN _ _ _) (congrArg (World.drewN _) (Nat.add_assoc _ _ _))⟩)))
   repeat (go_quiet (first | ((with_reducible refine gate_dst (N := 33) rfl ?_); (try (refine gate_guard (by rfl) ?_; dsimp only)); refine Kd.R_lit (Kd.int .i64) _ 3 ?hg (N := 33) ?hd (xs := ([3, 2] : List Int)) (inner := [.int .i64 3, .int .i64 2]) (ok := fun _ => True) (okp := fun _ => True) ?hr ?hp (fun _ hk => hk) trivial (Below.refl _ _) (Nat.le_refl _) (by simp) ?_; (case hd => rfl); (case hg => rfl); (case hr => first | (go_simp; done) | (go_simp; rfl)); (case hp => exact (Reps.one (show Kd.M (Kd.int .i64) _ _ _ 3 [.int .i64 3] from rfl) (Reps.one (show Kd.M (Kd.int .i64) _ _ _ 2 [.int .i64 2] from rfl) (Reps.none _ _)))); intro v170 w9 ho10 hb hg_ hnew_; clear hg_ hnew_; (first | rw [← Ny169.out] at ho10 | (simp only [Int.reduceToNat] at ho10; rw [← Ny169.out] at ho10)); have n0_ := Aside0.mk (Kd.R_elder' (by (with_reducible repeat (first | apply Kd.R_alloc | apply Kd.R_drewN | apply Kd.R_drew)); exact HO168.out) (Kd.R_base ho10) hb); have n1_ := Aside0.mk (Kd.R_lower (Kd.R_new' ho10 (Kd.R_lt (by (with_reducible repeat (first | apply Kd.R_alloc | apply Kd.R_drewN | apply Kd.R_drew)); exact HO168.out))) (below_size (by repeat (first | (with_reducible first | exact HB.out | apply below_alloc | apply pw_below_drewN | apply below_drew1) | exact HB.out)))); have n2_ := Aside0.mk (below_step (by repeat (first | (with_reducible first | exact HB.out | apply below_alloc | apply pw_below_drewN | apply below_drew1) | exact HB.out)) hb); clear HO168; clear HB; have HO168 := n0_; have HO171 := n1_; have HB := n2_; clear n0_ n1_ n2_; clear hb ho10; obtain ⟨Ao11, co11, eo11⟩ := Kd.R_slice HO168.out; subst eo11; obtain ⟨Ao12, co12, eo12⟩ := Kd.R_slice HO171.out; subst eo12) | (go_at_call 16; (with_reducible refine (slices_Equal_int_int.calls k _ _ t165 _ _ y169 t172 _ ?side1 ?side2 ?side3 ?side4 A8.out).mono ?_); (case side1 => repeat (first | exact (Kd.R_reads' HO168.out).2.2 | (with_reducible refine Kd.C_alloc ?_ _) | (with_reducible refine Kd.C_drewN ?_ _) | (with_reducible refine Kd.C_drew ?_))); (case side2 => exact (Kd.R_reads' HO168.out).2.1); (case side3 => repeat (first | exact (Kd.R_reads' HO171.out).2.2 | (with_reducible refine Kd.C_alloc ?_ _) | (with_reducible refine Kd.C_drewN ?_ _) | (with_reducible refine Kd.C_drew ?_))); (case side4 => exact (Kd.R_reads' HO171.out).2.1); rintro e w' ⟨rfl, ⟨nd, rfl⟩⟩; (try first | exact ⟨rfl, _, World.drewN_drewN _ _ _⟩ | exact ⟨rfl, _, Eq.trans (World.drewN_drewN _ _ _) (congrArg (World.drewN _) (Nat.add_assoc _ _ _))⟩))); try go_wp2_with (first | ((with_reducible refine gate_dst (N := 33) rfl ?_); (try (refine gate_guard (by rfl) ?_; dsimp only)); refine Kd.R_lit (Kd.int .i64) _ 3 ?hg (N := 33) ?hd (xs := ([3, 2] : List Int)) (inner := [.int .i64 3, .int .i64 2]) (ok := fun _ => True) (okp := fun _ => True) ?hr ?hp (fun _ hk => hk) trivial (Below.refl _ _) (Nat.le_refl _) (by simp) ?_; (case hd => rfl); (case hg => rfl); (case hr => first | (go_simp; done) | (go_simp; rfl)); (case hp => exact (Reps.one (show Kd.M (Kd.int .i64) _ _ _ 3 [.int .i64 3] from rfl) (Reps.one (show Kd.M (Kd.int .i64) _ _ _ 2 [.int .i64 2] from rfl) (Reps.none _ _)))); intro v170 w9 ho10 hb hg_ hnew_; clear hg_ hnew_; (first | rw [← Ny169.out] at ho10 | (simp only [Int.reduceToNat] at ho10; rw [← Ny169.out] at ho10)); have n0_ := Aside0.mk (Kd.R_elder' (by (with_reducible repeat (first | apply Kd.R_alloc | apply Kd.R_drewN | apply Kd.R_drew)); exact HO168.out) (Kd.R_base ho10) hb); have n1_ := Aside0.mk (Kd.R_lower (Kd.R_new' ho10 (Kd.R_lt (by (with_reducible repeat (first | apply Kd.R_alloc | apply Kd.R_drewN | apply Kd.R_drew)); exact HO168.out))) (below_size (by repeat (first | (with_reducible first | exact HB.out | apply below_alloc | apply pw_below_drewN | apply below_drew1) | exact HB.out)))); have n2_ := Aside0.mk (below_step (by repeat (first | (with_reducible first | exact HB.out | apply below_alloc | apply pw_below_drewN | apply below_drew1) | exact HB.out)) hb); clear HO168; clear HB; have HO168 := n0_; have HO171 := n1_; have HB := n2_; clear n0_ n1_ n2_; clear hb ho10; obtain ⟨Ao11, co11, eo11⟩ := Kd.R_slice HO168.out; subst eo11; obtain ⟨Ao12, co12, eo12⟩ := Kd.R_slice HO171.out; subst eo12) | (go_at_call 16; (with_reducible refine (slices_Equal_int_int.calls k _ _ t165 _ _ y169 t172 _ ?side1 ?side2 ?side3 ?side4 A8.out).mono ?_); (case side1 => repeat (first | exact (Kd.R_reads' HO168.out).2.2 | (with_reducible refine Kd.C_alloc ?_ _) | (with_reducible refine Kd.C_drewN ?_ _) | (with_reducible refine Kd.C_drew ?_))); (case side2 => exact (Kd.R_reads' HO168.out).2.1); (case side3 => repeat (first | exact (Kd.R_reads' HO171.out).2.2 | (with_reducible refine Kd.C_alloc ?_ _) | (with_reducible refine Kd.C_drewN ?_ _) | (with_reducible refine Kd.C_drew ?_))); (case side4 => exact (Kd.R_reads' HO171.out).2.1); rintro e w' ⟨rfl, ⟨nd, rfl⟩⟩; (try first | exact ⟨rfl, _, World.drewN_drewN _ _ _⟩ | exact ⟨rfl, _, Eq.trans (World.drewN_drewN _ _ _) (congrArg (World.drewN _) (Nat.add_assoc _ _ _))⟩))))
   go_meet
   case rel => exact ⟨_, (!t172), (by first | rfl | (simp; done) | (simp [*]; done)), H', ⟨by first | omega | exact Nat.le_refl _⟩, ⟨by repeat (first | (with_reducible first | exact HB.out | apply below_alloc | apply pw_below_drewN | apply below_drew1) | exact HB.out)⟩⟩
  ·rw [if_neg c7] at H
   have c7b0 : (t166 == 0) = false := beq_eq_false_iff_ne.mpr c7
   have c7b1 : (t166 != 0) = true := bne_iff_ne.mpr c7
   (first | rw [c7b0] | (simp only [i64_w, i32_w]; rw [c7b0]) | skip)
   have H' := Aside0.mk H
   clear H
   go_wp2
   repeat (go_quiet (fail); try go_wp2)
   go_meet
   case rel => exact ⟨_, (true), (by first | rfl | (simp; done) | (simp [*]; done)), H', ⟨by first | omega | exact Nat.le_refl _⟩, ⟨by repeat (first | (with_reducible first | exact HB.out | apply below_alloc | apply pw_below_drewN | apply below_drew1) | exact HB.out)⟩⟩
 case rest =>
  clear HC5
  try clear c1
  try clear p2
  try clear c7
  try clear c7b0
  try clear c7b1
  try clear c8
  obtain ⟨kq, x36_4, rfl, HA, HJ4, HB⟩ := hcut
  cases kq with
  | zero => exact absurd HA.out (by simp [ck_BalanceAddsUp.j0])
  | succ kj4 =>
   have H := HA.out
   clear HA
   simp only [ck_BalanceAddsUp.j0] at H
   by_cases c13 : x36_4 = true
   ·subst c13
    have H1 : (some false) = some r := by rw [if_pos rfl] at H; exact H
    clear H
    have H := H1
    clear H1
    obtain rfl := Option.some.inj H
    go_wp2
    repeat (go_quiet (fail); try go_wp2)
    go_ret
    exact ⟨by first | rfl | (simp [errW_none, errW_some] <;> rfl) | (simp [*, errW_none, errW_some] <;> rfl), by repeat (first | (with_reducible first | exact HB.out | apply below_alloc | apply pw_below_drewN | apply below_drew1) | exact HB.out)⟩
   ·replace c13 := Bool.eq_false_iff.mpr c13
    subst c13
    have H1 : ((ck_within.f a0 1 8).bind fun t173 => ((ck_cells.f kj4 t173 l1).bind fun t174 => ((ck_within.f a2 0 31680).bind fun t177 => ((balance_Needs.f kj4 t173 t174).bind fun bt178 => ((balance_Widths.f kj4 t173 t174 t177).bind fun bt185 => (if bt178.2.2 = 0 then (if bt185.2 = 0 then (if (bt185.1.length : Int) = t173 then (if (bt178.1.length : Int) = t173 then (ck_BalanceAddsUp.j1 kj4 t174 t177 bt178.1 bt178.2.1 bt185.1 ((bt178.2.1.length : Int) != t173)) else (ck_BalanceAddsUp.j1 kj4 t174 t177 bt178.1 bt178.2.1 bt185.1 true)) else (ck_BalanceAddsUp.j1 kj4 t174 t177 bt178.1 bt178.2.1 bt185.1 true)) else (ck_BalanceAddsUp.j1 kj4 t174 t177 bt178.1 bt178.2.1 bt185.1 true)) else (ck_BalanceAddsUp.j1 kj4 t174 t177 bt178.1 bt178.2.1 bt185.1 true))))))) = some r := by rw [if_neg (show ¬ (false = true) by decide)] at H; exact H
    clear H
    have H := H1
    clear H1
    replace H := Option.bind_eq_some_iff.mp H
    obtain ⟨t173, A140, H⟩ := H
    replace H : ((ck_cells.f kj4 t173 l1).bind fun t174 => ((ck_within.f a2 0 31680).bind fun t177 => ((balance_Needs.f kj4 t173 t174).bind fun bt178 => ((balance_Widths.f kj4 t173 t174 t177).bind fun bt185 => (if bt178.2.2 = 0 then (if bt185.2 = 0 then (if (bt185.1.length : Int) = t173 then (if (bt178.1.length : Int) = t173 then (ck_BalanceAddsUp.j1 kj4 t174 t177 bt178.1 bt178.2.1 bt185.1 ((bt178.2.1.length : Int) != t173)) else (ck_BalanceAddsUp.j1 kj4 t174 t177 bt178.1 bt178.2.1 bt185.1 true)) else (ck_BalanceAddsUp.j1 kj4 t174 t177 bt178.1 bt178.2.1 bt185.1 true)) else (ck_BalanceAddsUp.j1 kj4 t174 t177 bt178.1 bt178.2.1 bt185.1 true)) else (ck_BalanceAddsUp.j1 kj4 t174 t177 bt178.1 bt178.2.1 bt185.1 true)))))) = some r := H
    have A14 := Aside0.mk A140
    clear A140
    replace H := Option.bind_eq_some_iff.mp H
    obtain ⟨t174, A150, H⟩ := H
    replace H : ((ck_within.f a2 0 31680).bind fun t177 => ((balance_Needs.f kj4 t173 t174).bind fun bt178 => ((balance_Widths.f kj4 t173 t174 t177).bind fun bt185 => (if bt178.2.2 = 0 then (if bt185.2 = 0 then (if (bt185.1.length : Int) = t173 then (if (bt178.1.length : Int) = t173 then (ck_BalanceAddsUp.j1 kj4 t174 t177 bt178.1 bt178.2.1 bt185.1 ((bt178.2.1.length : Int) != t173)) else (ck_BalanceAddsUp.j1 kj4 t174 t177 bt178.1 bt178.2.1 bt185.1 true)) else (ck_BalanceAddsUp.j1 kj4 t174 t177 bt178.1 bt178.2.1 bt185.1 true)) else (ck_BalanceAddsUp.j1 kj4 t174 t177 bt178.1 bt178.2.1 bt185.1 true)) else (ck_BalanceAddsUp.j1 kj4 t174 t177 bt178.1 bt178.2.1 bt185.1 true))))) = some r := H
    have A15 := Aside0.mk A150
    clear A150
    replace H := Option.bind_eq_some_iff.mp H
    obtain ⟨t177, A160, H⟩ := H
    replace H : ((balance_Needs.f kj4 t173 t174).bind fun bt178 => ((balance_Widths.f kj4 t173 t174 t177).bind fun bt185 => (if bt178.2.2 = 0 then (if bt185.2 = 0 then (if (bt185.1.length : Int) = t173 then (if (bt178.1.length : Int) = t173 then (ck_BalanceAddsUp.j1 kj4 t174 t177 bt178.1 bt178.2.1 bt185.1 ((bt178.2.1.length : Int) != t173)) else (ck_BalanceAddsUp.j1 kj4 t174 t177 bt178.1 bt178.2.1 bt185.1 true)) else (ck_BalanceAddsUp.j1 kj4 t174 t177 bt178.1 bt178.2.1 bt185.1 true)) else (ck_BalanceAddsUp.j1 kj4 t174 t177 bt178.1 bt178.2.1 bt185.1 true)) else (ck_BalanceAddsUp.j1 kj4 t174 t177 bt178.1 bt178.2.1 bt185.1 true)))) = some r := H
    have A16 := Aside0.mk A160
    clear A160
    replace H := Option.bind_eq_some_iff.mp H
    obtain ⟨⟨t178, t179, t180⟩, A170, H⟩ := H
    replace H : ((balance_Widths.f kj4 t173 t174 t177).bind fun bt185 => (if t180 = 0 then (if bt185.2 = 0 then (if (bt185.1.length : Int) = t173 then (if (t178.length : Int) = t173 then (ck_BalanceAddsUp.j1 kj4 t174 t177 t178 t179 bt185.1 ((t179.length : Int) != t173)) else (ck_BalanceAddsUp.j1 kj4 t174 t177 t178 t179 bt185.1 true)) else (ck_BalanceAddsUp.j1 kj4 t174 t177 t178 t179 bt185.1 true)) else (ck_BalanceAddsUp.j1 kj4 t174 t177 t178 t179 bt185.1 true)) else (ck_BalanceAddsUp.j1 kj4 t174 t177 t178 t179 bt185.1 true))) = some r := H
    have A17 := Aside0.mk A170
    clear A170
    replace H := Option.bind_eq_some_iff.mp H
    obtain ⟨⟨t185, t186⟩, A180, H⟩ := H
    replace H : (if t180 = 0 then (if t186 = 0 then (if (t185.length : Int) = t173 then (if (t178.length : Int) = t173 then (ck_BalanceAddsUp.j1 kj4 t174 t177 t178 t179 t185 ((t179.length : Int) != t173)) else (ck_BalanceAddsUp.j1 kj4 t174 t177 t178 t179 t185 true)) else (ck_BalanceAddsUp.j1 kj4 t174 t177 t178 t179 t185 true)) else (ck_BalanceAddsUp.j1 kj4 t174 t177 t178 t179 t185 true)) else (ck_BalanceAddsUp.j1 kj4 t174 t177 t178 t179 t185 true)) = some r := H
    have A18 := Aside0.mk A180
    clear A180
    have HC19 := Aside0.mk H
    clear H
    go_upto_region 8 with (first | (go_at_call 13; (with_reducible refine (ck_within.calls a0 1 8 t173 _ A14.out).mono ?_); rintro e w' ⟨rfl, ⟨nd, rfl⟩⟩; (try first | exact ⟨rfl, _, World.drewN_drewN _ _ _⟩ | exact ⟨rfl, _, Eq.trans (World.drewN_drewN _ _ _) (congrArg (World.drewN _) (Nat.add_assoc _ _ _))⟩)) | (go_at_call 28; (with_reducible refine (ck_cells.calls kj4 t173 _ _ l1 t174 _ ?side1 ?side2 A15.out).mono ?_); (case side1 => repeat (first | exact (Kd.C_below HR1.out (by repeat (first | (with_reducible first | exact HB.out | apply below_alloc | apply pw_below_drewN | apply below_drew1) | exact HB.out))) | (with_reducible refine Kd.C_alloc ?_ _) | (with_reducible refine Kd.C_drewN ?_ _) | (with_reducible refine Kd.C_drew ?_))); (case side2 => exact HC1.out); rintro e w20 ⟨v175, rfl, ho0, hb⟩; have n0_ := Aside0.mk (Kd.R_lower ho0 (below_size (by repeat (first | (with_reducible first | exact HB.out | apply below_alloc | apply pw_below_drewN | apply below_drew1) | exact HB.out)))); have n1_ := Aside0.mk (below_step (by repeat (first | (with_reducible first | exact HB.out | apply below_alloc | apply pw_below_drewN | apply below_drew1) | exact HB.out)) hb); clear HB; have HO176 := n0_; have HB := n1_; clear n0_ n1_; (try clear hb); (try clear hb2); (try clear hk); (try clear hi); (try clear ho0)) | (go_at_call 13; (with_reducible refine (ck_within.calls a2 0 31680 t177 _ A16.out).mono ?_); rintro e w' ⟨rfl, ⟨nd, rfl⟩⟩; (try first | exact ⟨rfl, _, World.drewN_drewN _ _ _⟩ | exact ⟨rfl, _, Eq.trans (World.drewN_drewN _ _ _) (congrArg (World.drewN _) (Nat.add_assoc _ _ _))⟩); obtain ⟨Ao21, co21, eo21⟩ := Kd.R_slice HO176.out; subst eo21) | (go_at_call 29; (with_reducible refine (balance_Needs.calls kj4 t173 _ _ t174 t178 t179 t180 _ ?side1 ?side2 A17.out).mono ?_); (case side1 => repeat (first | exact (Kd.R_reads' HO176.out).2.2 | (with_reducible refine Kd.C_alloc ?_ _) | (with_reducible refine Kd.C_drewN ?_ _) | (with_reducible refine Kd.C_drew ?_))); (case side2 => exact (Kd.R_reads' HO176.out).2.1); rintro e w22 ⟨v181, v183, rfl, ho0, ho1, hb⟩; have n0_ := Aside0.mk (Kd.R_below (by (with_reducible repeat (first | apply Kd.R_alloc | apply Kd.R_drewN | apply Kd.R_drew)); exact HO176.out) hb); have n1_ := Aside0.mk (Kd.R_lower ho0 (below_size (by repeat (first | (with_reducible first | exact HB.out | apply below_alloc | apply pw_below_drewN | apply below_drew1) | exact HB.out)))); have n2_ := Aside0.mk (Kd.R_lower ho1 (below_size (by repeat (first | (with_reducible first | exact HB.out | apply below_alloc | apply pw_below_drewN | apply below_drew1) | exact HB.out)))); have n3_ := Aside0.mk (below_step (by repeat (first | (with_reducible first | exact HB.out | apply below_alloc | apply pw_below_drewN | apply below_drew1) | exact HB.out)) hb); clear HO176; clear HB; have HO176 := n0_; have HO182 := n1_; have HO184 := n2_; have HB := n3_; clear n0_ n1_ n2_ n3_; (try clear hb); (try clear hb2); (try clear hk); (try clear hi); (try clear ho0); (try clear ho1)) | (go_at_call 27; (with_reducible refine (balance_Widths.calls kj4 t173 _ _ t174 t177 t185 t186 _ ?side1 ?side2 A18.out).mono ?_); (case side1 => repeat (first | exact (Kd.R_reads' HO176.out).2.2 | (with_reducible refine Kd.C_alloc ?_ _) | (with_reducible refine Kd.C_drewN ?_ _) | (with_reducible refine Kd.C_drew ?_))); (case side2 => exact (Kd.R_reads' HO176.out).2.1); rintro e w23 ⟨v187, rfl, ho0, hb⟩; have n0_ := Aside0.mk (Kd.R_below (by (with_reducible repeat (first | apply Kd.R_alloc | apply Kd.R_drewN | apply Kd.R_drew)); exact HO176.out) hb); have n1_ := Aside0.mk (Kd.R_elder' (by (with_reducible repeat (first | apply Kd.R_alloc | apply Kd.R_drewN | apply Kd.R_drew)); exact HO182.out) (Kd.R_base ho0) hb); have n2_ := Aside0.mk (Kd.R_elder' (by (with_reducible repeat (first | apply Kd.R_alloc | apply Kd.R_drewN | apply Kd.R_drew)); exact HO184.out) (Kd.R_base ho0) hb); have n3_ := Aside0.mk (Kd.R_lower (Kd.R_new' (Kd.R_new' ho0 (Kd.R_lt (by (with_reducible repeat (first | apply Kd.R_alloc | apply Kd.R_drewN | apply Kd.R_drew)); exact HO182.out))) (Kd.R_lt (by (with_reducible repeat (first | apply Kd.R_alloc | apply Kd.R_drewN | apply Kd.R_drew)); exact HO184.out))) (below_size (by repeat (first | (with_reducible first | exact HB.out | apply below_alloc | apply pw_below_drewN | apply below_drew1) | exact HB.out)))); have n4_ := Aside0.mk (below_step (by repeat (first | (with_reducible first | exact HB.out | apply below_alloc | apply pw_below_drewN | apply below_drew1) | exact HB.out)) hb); clear HO176; clear HO182; clear HO184; clear HB; have HO176 := n0_; have HO182 := n1_; have HO184 := n2_; have HO188 := n3_; have HB := n4_; clear n0_ n1_ n2_ n3_ n4_; (try clear hb); (try clear hb2); (try clear hk); (try clear hi); (try clear ho0)))
    repeat (go_quiet (first | (go_at_call 13; (with_reducible refine (ck_within.calls a0 1 8 t173 _ A14.out).mono ?_); rintro e w' ⟨rfl, ⟨nd, rfl⟩⟩; (try first | exact ⟨rfl, _, World.drewN_drewN _ _ _⟩ | exact ⟨rfl, _, Eq.trans (World.drewN_drewN _ _ _) (congrArg (World.drewN _) (Nat.add_assoc _ _ _))⟩)) | (go_at_call 28; (with_reducible refine (ck_cells.calls kj4 t173 _ _ l1 t174 _ ?side1 ?side2 A15.out).mono ?_); (case side1 => repeat (first | exact (Kd.C_below HR1.out (by repeat (first | (with_reducible first | exact HB.out | apply below_alloc | apply pw_below_drewN | apply below_drew1) | exact HB.out))) | (with_reducible refine Kd.C_alloc ?_ _) | (with_reducible refine Kd.C_drewN ?_ _) | (with_reducible refine Kd.C_drew ?_))); (case side2 => exact HC1.out); rintro e w20 ⟨v175, rfl, ho0, hb⟩; have n0_ := Aside0.mk (Kd.R_lower ho0 (below_size (by repeat (first | (with_reducible first | exact HB.out | apply below_alloc | apply pw_below_drewN | apply below_drew1) | exact HB.out)))); have n1_ := Aside0.mk (below_step (by repeat (first | (with_reducible first | exact HB.out | apply below_alloc | apply pw_below_drewN | apply below_drew1) | exact HB.out)) hb); clear HB; have HO176 := n0_; have HB := n1_; clear n0_ n1_; (try clear hb); (try clear hb2); (try clear hk); (try clear hi); (try clear ho0)) | (go_at_call 13; (with_reducible refine (ck_within.calls a2 0 31680 t177 _ A16.out).mono ?_); rintro e w' ⟨rfl, ⟨nd, rfl⟩⟩; (try first | exact ⟨rfl, _, World.drewN_drewN _ _ _⟩ | exact ⟨rfl, _, Eq.trans (World.drewN_drewN _ _ _) (congrArg (World.drewN _) (Nat.add_assoc _ _ _))⟩); obtain ⟨Ao21, co21, eo21⟩ := Kd.R_slice HO176.out; subst eo21) | (go_at_call 29; (with_reducible refine (balance_Needs.calls kj4 t173 _ _ t174 t178 t179 t180 _ ?side1 ?side2 A17.out).mono ?_); (case side1 => repeat (first | exact (Kd.R_reads' HO176.out).2.2 | (with_reducible refine Kd.C_alloc ?_ _) | (with_reducible refine Kd.C_drewN ?_ _) | (with_reducible refine Kd.C_drew ?_))); (case side2 => exact (Kd.R_reads' HO176.out).2.1); rintro e w22 ⟨v181, v183, rfl, ho0, ho1, hb⟩; have n0_ := Aside0.mk (Kd.R_below (by (with_reducible repeat (first | apply Kd.R_alloc | apply Kd.R_drewN | apply Kd.R_drew)); exact HO176.out) hb); have n1_ := Aside0.mk (Kd.R_lower ho0 (below_size (by repeat (first | (with_reducible first | exact HB.out | apply below_alloc | apply pw_below_drewN | apply below_drew1) | exact HB.out)))); have n2_ := Aside0.mk (Kd.R_lower ho1 (below_size (by repeat (first | (with_reducible first | exact HB.out | apply below_alloc | apply pw_below_drewN | apply below_drew1) | exact HB.out)))); have n3_ := Aside0.mk (below_step (by repeat (first | (with_reducible first | exact HB.out | apply below_alloc | apply pw_below_drewN | apply below_drew1) | exact HB.out)) hb); clear HO176; clear HB; have HO176 := n0_; have HO182 := n1_; have HO184 := n2_; have HB := n3_; clear n0_ n1_ n2_ n3_; (try clear hb); (try clear hb2); (try clear hk); (try clear hi); (try clear ho0); (try clear ho1)) | (go_at_call 27; (with_reducible refine (balance_Widths.calls kj4 t173 _ _ t174 t177 t185 t186 _ ?side1 ?side2 A18.out).mono ?_); (case side1 => repeat (first | exact (Kd.R_reads' HO176.out).2.2 | (with_reducible refine Kd.C_alloc ?_ _) | (with_reducible refine Kd.C_drewN ?_ _) | (with_reducible refine Kd.C_drew ?_))); (case side2 => exact (Kd.R_reads' HO176.out).2.1); rintro e w23 ⟨v187, rfl, ho0, hb⟩; have n0_ := Aside0.mk (Kd.R_below (by (with_reducible repeat (first | apply Kd.R_alloc | apply Kd.R_drewN | apply Kd.R_drew)); exact HO176.out) hb); have n1_ := Aside0.mk (Kd.R_elder' (by (with_reducible repeat (first | apply Kd.R_alloc | apply Kd.R_drewN | apply Kd.R_drew)); exact HO182.out) (Kd.R_base ho0) hb); have n2_ := Aside0.mk (Kd.R_elder' (by (with_reducible repeat (first | apply Kd.R_alloc | apply Kd.R_drewN | apply Kd.R_drew)); exact HO184.out) (Kd.R_base ho0) hb); have n3_ := Aside0.mk (Kd.R_lower (Kd.R_new' (Kd.R_new' ho0 (Kd.R_lt (by (with_reducible repeat (first | apply Kd.R_alloc | apply Kd.R_drewN | apply Kd.R_drew)); exact HO182.out))) (Kd.R_lt (by (with_reducible repeat (first | apply Kd.R_alloc | apply Kd.R_drewN | apply Kd.R_drew)); exact HO184.out))) (below_size (by repeat (first | (with_reducible first | exact HB.out | apply below_alloc | apply pw_below_drewN | apply below_drew1) | exact HB.out)))); have n4_ := Aside0.mk (below_step (by repeat (first | (with_reducible first | exact HB.out | apply below_alloc | apply pw_below_drewN | apply below_drew1) | exact HB.out)) hb); clear HO176; clear HO182; clear HO184; clear HB; have HO176 := n0_; have HO182 := n1_; have HO184 := n2_; have HO188 := n3_; have HB := n4_; clear n0_ n1_ n2_ n3_ n4_; (try clear hb); (try clear hb2); (try clear hk); (try clear hi); (try clear ho0))); go_upto_region 8 with (first | (go_at_call 13; (with_reducible refine (ck_within.calls a0 1 8 t173 _ A14.out).mono ?_); rintro e w' ⟨rfl, ⟨nd, rfl⟩⟩; (try first | exact ⟨rfl, _, World.drewN_drewN _ _ _⟩ | exact ⟨rfl, _, Eq.trans (World.drewN_drewN _ _ _) (congrArg (World.drewN _) (Nat.add_assoc _ _ _))⟩)) | (go_at_call 28; (with_reducible refine (ck_cells.calls kj4 t173 _ _ l1 t174 _ ?side1 ?side2 A15.out).mono ?_); (case side1 => repeat (first | exact (Kd.C_below HR1.out (by repeat (first | (with_reducible first | exact HB.out | apply below_alloc | apply pw_below_drewN | apply below_drew1) | exact HB.out))) | (with_reducible refine Kd.C_alloc ?_ _) | (with_reducible refine Kd.C_drewN ?_ _) | (with_reducible refine Kd.C_drew ?_))); (case side2 => exact HC1.out); rintro e w20 ⟨v175, rfl, ho0, hb⟩; have n0_ := Aside0.mk (Kd.R_lower ho0 (below_size (by repeat (first | (with_reducible first | exact HB.out | apply below_alloc | apply pw_below_drewN | apply below_drew1) | exact HB.out)))); have n1_ := Aside0.mk (below_step (by repeat (first | (with_reducible first | exact HB.out | apply below_alloc | apply pw_below_drewN | apply below_drew1) | exact HB.out)) hb); clear HB; have HO176 := n0_; have HB := n1_; clear n0_ n1_; (try clear hb); (try clear hb2); (try clear hk); (try clear hi); (try clear ho0)) | (go_at_call 13; (with_reducible refine (ck_within.calls a2 0 31680 t177 _ A16.out).mono ?_); rintro e w' ⟨rfl, ⟨nd, rfl⟩⟩; (try first | exact ⟨rfl, _, World.drewN_drewN _ _ _⟩ | exact ⟨rfl, _, Eq.trans (World.drewN_drewN _ _ _) (congrArg (World.drewN _) (Nat.add_assoc _ _ _))⟩); obtain ⟨Ao21, co21, eo21⟩ := Kd.R_slice HO176.out; subst eo21) | (go_at_call 29; (with_reducible refine (balance_Needs.calls kj4 t173 _ _ t174 t178 t179 t180 _ ?side1 ?side2 A17.out).mono ?_); (case side1 => repeat (first | exact (Kd.R_reads' HO176.out).2.2 | (with_reducible refine Kd.C_alloc ?_ _) | (with_reducible refine Kd.C_drewN ?_ _) | (with_reducible refine Kd.C_drew ?_))); (case side2 => exact (Kd.R_reads' HO176.out).2.1); rintro e w22 ⟨v181, v183, rfl, ho0, ho1, hb⟩; have n0_ := Aside0.mk (Kd.R_below (by (with_reducible repeat (first | apply Kd.R_alloc | apply Kd.R_drewN | apply Kd.R_drew)); exact HO176.out) hb); have n1_ := Aside0.mk (Kd.R_lower ho0 (below_size (by repeat (first | (with_reducible first | exact HB.out | apply below_alloc | apply pw_below_drewN | apply below_drew1) | exact HB.out)))); have n2_ := Aside0.mk (Kd.R_lower ho1 (below_size (by repeat (first | (with_reducible first | exact HB.out | apply below_alloc | apply pw_below_drewN | apply below_drew1) | exact HB.out)))); have n3_ := Aside0.mk (below_step (by repeat (first | (with_reducible first | exact HB.out | apply below_alloc | apply pw_below_drewN | apply below_drew1) | exact HB.out)) hb); clear HO176; clear HB; have HO176 := n0_; have HO182 := n1_; have HO184 := n2_; have HB := n3_; clear n0_ n1_ n2_ n3_; (try clear hb); (try clear hb2); (try clear hk); (try clear hi); (try clear ho0); (try clear ho1)) | (go_at_call 27; (with_reducible refine (balance_Widths.calls kj4 t173 _ _ t174 t177 t185 t186 _ ?side1 ?side2 A18.out).mono ?_); (case side1 => repeat (first | exact (Kd.R_reads' HO176.out).2.2 | (with_reducible refine Kd.C_alloc ?_ _) | (with_reducible refine Kd.C_drewN ?_ _) | (with_reducible refine Kd.C_drew ?_))); (case side2 => exact (Kd.R_reads' HO176.out).2.1); rintro e w23 ⟨v187, rfl, ho0, hb⟩; have n0_ := Aside0.mk (Kd.R_below (by (with_reducible repeat (first | apply Kd.R_alloc | apply Kd.R_drewN | apply Kd.R_drew)); exact HO176.out) hb); have n1_ := Aside0.mk (Kd.R_elder' (by (with_reducible repeat (first | apply Kd.R_alloc | apply Kd.R_drewN | apply Kd.R_drew)); exact HO182.out) (Kd.R_base ho0) hb); have n2_ := Aside0.mk (Kd.R_elder' (by (with_reducible repeat (first | apply Kd.R_alloc | apply Kd.R_drewN | apply Kd.R_drew)); exact HO184.out) (Kd.R_base ho0) hb); have n3_ := Aside0.mk (Kd.R_lower (Kd.R_new' (Kd.R_new' ho0 (Kd.R_lt (by (with_reducible repeat (first | apply Kd.R_alloc | apply Kd.R_drewN | apply Kd.R_drew)); exact HO182.out))) (Kd.R_lt (by (with_reducible repeat (first | apply Kd.R_alloc | apply Kd.R_drewN | apply Kd.R_drew)); exact HO184.out))) (below_size (by repeat (first | (with_reducible first | exact HB.out | apply below_alloc | apply pw_below_drewN | apply below_drew1) | exact HB.out)))); have n4_ := Aside0.mk (below_step (by repeat (first | (with_reducible first | exact HB.out | apply below_alloc | apply pw_below_drewN | apply below_drew1) | exact HB.out)) hb); clear HO176; clear HO182; clear HO184; clear HB; have HO176 := n0_; have HO182 := n1_; have HO184 := n2_; have HO188 := n3_; have HB := n4_; clear n0_ n1_ n2_ n3_ n4_; (try clear hb); (try clear hb2); (try clear hk); (try clear hi); (try clear ho0))))
    (try simp only [Act.put, List.setIfInBounds_toArray, List.set_cons_zero, List.set_cons_succ])
    go_cut [81] (fun v81 wc => ∃ (kq : Nat) (x81_18 : Bool), v81 = .bool x81_18 ∧ Aside0 (ck_BalanceAddsUp.j1 kq t174 t177 t178 t179 t185 x81_18 = some r) ∧ Aside0 (kq ≤ kj4) ∧ Aside0 (Kd.R k80 80 wc w.heap.size (fun _ => True) (.slice Ao21 t174.length co21) t174) ∧ Aside0 (Kd.R (Kd.int .i64) 3 wc w.heap.size (fun k_ => some k_ ≠ (v183 : Value).ownBlock ∧ some k_ ≠ (v187 : Value).ownBlock) v181 t178) ∧ Aside0 (Kd.R (Kd.int .i64) 3 wc w.heap.size (fun k_ => some k_ ≠ (v181 : Value).ownBlock ∧ some k_ ≠ (v187 : Value).ownBlock) v183 t179) ∧ Aside0 (Kd.R (Kd.int .i64) 3 wc w.heap.size (fun k_ => some k_ ≠ (v181 : Value).ownBlock ∧ some k_ ≠ (v183 : Value).ownBlock) v187 t185) ∧ Aside0 (Below w.heap.size w wc))
    case first =>
     have H := HC19.out
     clear HC19
     by_cases c24 : t180 = 0
     ·rw [if_pos c24] at H
      have c24b0 : (t180 == 0) = true := beq_iff_eq.mpr c24
      have c24b1 : (t180 != 0) = false := bne_eq_false_iff_eq.mpr c24
      clear c24
      (first | rw [c24b0] | (simp only [i64_w, i32_w]; rw [c24b0]) | skip)
      by_cases c25 : t186 = 0
      ·rw [if_pos c25] at H
       have c25b0 : (t186 == 0) = true := beq_iff_eq.mpr c25
       have c25b1 : (t186 != 0) = false := bne_eq_false_iff_eq.mpr c25
       clear c25
       by_cases c26 : (t185.length : Int) = t173
       ·rw [if_pos c26] at H
        have c26b0 : ((t185.length : Int) == t173) = true := beq_iff_eq.mpr c26
        have c26b1 : ((t185.length : Int) != t173) = false := bne_eq_false_iff_eq.mpr c26
        clear c26
        by_cases c27 : (t178.length : Int) = t173
        ·rw [if_pos c27] at H
         have c27b0 : ((t178.length : Int) == t173) = true := beq_iff_eq.mpr c27
         have c27b1 : ((t178.length : Int) != t173) = false := bne_eq_false_iff_eq.mpr c27
         clear c27
         have H' := Aside0.mk H
         clear H
         obtain ⟨Ao28, co28, eo28⟩ := Kd.R_slice HO188.out
         subst eo28
         obtain ⟨Ao29, co29, eo29⟩ := Kd.R_slice HO182.out
         subst eo29
         obtain ⟨Ao30, co30, eo30⟩ := Kd.R_slice HO184.out
         subst eo30
         go_wp2
         repeat (go_quiet (fail); try go_wp2)
         go_meet
         case rel => exact ⟨_, (((t179.length : Int) != t173)), (by first | rfl | (simp; done) | (simp [*]; done)), H', ⟨by have := HJ4.out; first | omega | exact Nat.le_refl _⟩, ⟨by (with_reducible repeat (first | apply Kd.R_alloc | apply Kd.R_drewN | apply Kd.R_drew)); exact HO176.out⟩, ⟨by (with_reducible repeat (first | apply Kd.R_alloc | apply Kd.R_drewN | apply Kd.R_drew)); exact HO182.out⟩, ⟨by (with_reducible repeat (first | apply Kd.R_alloc | apply Kd.R_drewN | apply Kd.R_drew)); exact HO184.out⟩, ⟨by (with_reducible repeat (first | apply Kd.R_alloc | apply Kd.R_drewN | apply Kd.R_drew)); exact Kd.R_mono HO188.out (fun _ hk => ⟨hk.1.2, hk.2⟩)⟩, ⟨by repeat (first | (with_reducible first | exact HB.out | apply below_alloc | apply pw_below_drewN | apply below_drew1) | exact HB.out)⟩⟩
        ·rw [if_neg c27] at H
         have c27b0 : ((t178.length : Int) == t173) = false := beq_eq_false_iff_ne.mpr c27
         have c27b1 : ((t178.length : Int) != t173) = true := bne_iff_ne.mpr c27
         have H' := Aside0.mk H
         clear H
         obtain ⟨Ao31, co31, eo31⟩ := Kd.R_slice HO188.out
         subst eo31
         obtain ⟨Ao32, co32, eo32⟩ := Kd.R_slice HO182.out
         subst eo32
         go_wp2
         repeat (go_quiet (fail); try go_wp2)
         go_meet
         case rel => exact ⟨_, (true), (by first | rfl | (simp; done) | (simp [*]; done)), H', ⟨by have := HJ4.out; first | omega | exact Nat.le_refl _⟩, ⟨by (with_reducible repeat (first | apply Kd.R_alloc | apply Kd.R_drewN | apply Kd.R_drew)); exact HO176.out⟩, ⟨by (with_reducible repeat (first | apply Kd.R_alloc | apply Kd.R_drewN | apply Kd.R_drew)); exact HO182.out⟩, ⟨by (with_reducible repeat (first | apply Kd.R_alloc | apply Kd.R_drewN | apply Kd.R_drew)); exact HO184.out⟩, ⟨by (with_reducible repeat (first | apply Kd.R_alloc | apply Kd.R_drewN | apply Kd.R_drew)); exact Kd.R_mono HO188.out (fun _ hk => ⟨hk.1.2, hk.2⟩)⟩, ⟨by repeat (first | (with_reducible first | exact HB.out | apply below_alloc | apply pw_below_drewN | apply below_drew1) | exact HB.out)⟩⟩
       ·rw [if_neg c26] at H
        have c26b0 : ((t185.length : Int) == t173) = false := beq_eq_false_iff_ne.mpr c26
        have c26b1 : ((t185.length : Int) != t173) = true := bne_iff_ne.mpr c26
        have H' := Aside0.mk H
        clear H
        obtain ⟨Ao33, co33, eo33⟩ := Kd.R_slice HO188.out
        subst eo33
        go_wp2
        repeat (go_quiet (fail); try go_wp2)
        go_meet
        case rel => exact ⟨_, (true), (by first | rfl | (simp; done) | (simp [*]; done)), H', ⟨by have := HJ4.out; first | omega | exact Nat.le_refl _⟩, ⟨by (with_reducible repeat (first | apply Kd.R_alloc | apply Kd.R_drewN | apply Kd.R_drew)); exact HO176.out⟩, ⟨by (with_reducible repeat (first | apply Kd.R_alloc | apply Kd.R_drewN | apply Kd.R_drew)); exact HO182.out⟩, ⟨by (with_reducible repeat (first | apply Kd.R_alloc | apply Kd.R_drewN | apply Kd.R_drew)); exact HO184.out⟩, ⟨by (with_reducible repeat (first | apply Kd.R_alloc | apply Kd.R_drewN | apply Kd.R_drew)); exact Kd.R_mono HO188.out (fun _ hk => ⟨hk.1.2, hk.2⟩)⟩, ⟨by repeat (first | (with_reducible first | exact HB.out | apply below_alloc | apply pw_below_drewN | apply below_drew1) | exact HB.out)⟩⟩
      ·rw [if_neg c25] at H
       have c25b0 : (t186 == 0) = false := beq_eq_false_iff_ne.mpr c25
       have c25b1 : (t186 != 0) = true := bne_iff_ne.mpr c25
       have H' := Aside0.mk H
       clear H
       go_wp2
       repeat (go_quiet (fail); try go_wp2)
       go_meet
       case rel => exact ⟨_, (true), (by first | rfl | (simp; done) | (simp [*]; done)), H', ⟨by have := HJ4.out; first | omega | exact Nat.le_refl _⟩, ⟨by (with_reducible repeat (first | apply Kd.R_alloc | apply Kd.R_drewN | apply Kd.R_drew)); exact HO176.out⟩, ⟨by (with_reducible repeat (first | apply Kd.R_alloc | apply Kd.R_drewN | apply Kd.R_drew)); exact HO182.out⟩, ⟨by (with_reducible repeat (first | apply Kd.R_alloc | apply Kd.R_drewN | apply Kd.R_drew)); exact HO184.out⟩, ⟨by (with_reducible repeat (first | apply Kd.R_alloc | apply Kd.R_drewN | apply Kd.R_drew)); exact Kd.R_mono HO188.out (fun _ hk => ⟨hk.1.2, hk.2⟩)⟩, ⟨by repeat (first | (with_reducible first | exact HB.out | apply below_alloc | apply pw_below_drewN | apply below_drew1) | exact HB.out)⟩⟩
     ·rw [if_neg c24] at H
      have c24b0 : (t180 == 0) = false := beq_eq_false_iff_ne.mpr c24
      have c24b1 : (t180 != 0) = true := bne_iff_ne.mpr c24
      (first | rw [c24b0] | (simp only [i64_w, i32_w]; rw [c24b0]) | skip)
      have H' := Aside0.mk H
      clear H
      go_wp2
      repeat (go_quiet (fail); try go_wp2)
      go_meet
      case rel => exact ⟨_, (true), (by first | rfl | (simp; done) | (simp [*]; done)), H', ⟨by have := HJ4.out; first | omega | exact Nat.le_refl _⟩, ⟨by (with_reducible repeat (first | apply Kd.R_alloc | apply Kd.R_drewN | apply Kd.R_drew)); exact HO176.out⟩, ⟨by (with_reducible repeat (first | apply Kd.R_alloc | apply Kd.R_drewN | apply Kd.R_drew)); exact HO182.out⟩, ⟨by (with_reducible repeat (first | apply Kd.R_alloc | apply Kd.R_drewN | apply Kd.R_drew)); exact HO184.out⟩, ⟨by (with_reducible repeat (first | apply Kd.R_alloc | apply Kd.R_drewN | apply Kd.R_drew)); exact Kd.R_mono HO188.out (fun _ hk => ⟨hk.1.2, hk.2⟩)⟩, ⟨by repeat (first | (with_reducible first | exact HB.out | apply below_alloc | apply pw_below_drewN | apply below_drew1) | exact HB.out)⟩⟩
    case rest =>
     clear HC19
     try clear c1
     try clear c2
     try clear p2
     try clear c7
     try clear c7b0
     try clear c7b1
     try clear c8
     try clear c13
     try clear c24
     try clear c24b0
     try clear c24b1
     try clear c25
     try clear c25b0
     try clear c25b1
     try clear c26
     try clear c26b0
     try clear c26b1
     try clear c27
     try clear c27b0
     try clear c27b1
     try clear p2
     obtain ⟨kq, x81_18, rfl, HA, HJ18, HO_1, HO_9, HO_10, HO_12, HB⟩ := hcut
     cases kq with
     | zero => exact absurd HA.out (by simp [ck_BalanceAddsUp.j1])
     | succ kj18 =>
      have H := HA.out
      clear HA
      simp only [ck_BalanceAddsUp.j1] at H
      by_cases c34 : x81_18 = true
      ·subst c34
       have H1 : (some false) = some r := by rw [if_pos rfl] at H; exact H
       clear H
       have H := H1
       clear H1
       obtain rfl := Option.some.inj H
       go_wp2
       repeat (go_quiet (fail); try go_wp2)
       go_ret
       exact ⟨by first | rfl | (simp [errW_none, errW_some] <;> rfl) | (simp [*, errW_none, errW_some] <;> rfl), by repeat (first | (with_reducible first | exact HB.out | apply below_alloc | apply pw_below_drewN | apply below_drew1) | exact HB.out)⟩
      ·replace c34 := Bool.eq_false_iff.mpr c34
       subst c34
       have H1 : (ck_BalanceAddsUp.l0 kj18 t174 t177 t178 t179 t185 0 0 0 (t185.length : Int) 0) = some r := by rw [if_neg (show ¬ (false = true) by decide)] at H; exact H
       clear H
       have H := H1
       clear H1
       have H' := Aside0.mk H
       clear H
       obtain ⟨Ao35, co35, eo35⟩ := Kd.R_slice HO_12.out
       subst eo35
       go_wp2
       repeat (go_quiet (fail); try go_wp2)
       go_loopg [14, 15, 16, 84] kj18 (fun kq v14 v15 v16 v84 w' => ∃ (x14_3 : Int) (x15_3 : Int) (x16_3 : Int) (x84_3 : Int), v14 = .int .i64 x14_3 ∧ v15 = .int .i64 x15_3 ∧ v16 = .int .i64 x16_3 ∧ v84 = .int .i64 x84_3 ∧ Aside0 (ck_BalanceAddsUp.l0 kq t174 t177 t178 t179 t185 x14_3 x15_3 x16_3 (t185.length : Int) x84_3 = some r) ∧ Aside0 (kq ≤ kj18) ∧ Aside0 (Kd.R k80 80 w' w.heap.size (fun _ => True) (.slice Ao21 t174.length co21) t174) ∧ Aside0 (Kd.R (Kd.int .i64) 3 w' w.heap.size (fun k_ => some k_ ≠ (v183 : Value).ownBlock ∧ some k_ ≠ ((.slice Ao35 t185.length co35) : Value).ownBlock) v181 t178) ∧ Aside0 (Kd.R (Kd.int .i64) 3 w' w.heap.size (fun k_ => some k_ ≠ (v181 : Value).ownBlock ∧ some k_ ≠ ((.slice Ao35 t185.length co35) : Value).ownBlock) v183 t179) ∧ Aside0 (Kd.R (Kd.int .i64) 3 w' w.heap.size (fun k_ => some k_ ≠ (v181 : Value).ownBlock ∧ some k_ ≠ (v183 : Value).ownBlock) (.slice Ao35 t185.length co35) t185) ∧ Aside0 (Below w.heap.size w w'))
       case atStart => exact ⟨(0), (0), (0), (0), (by first | rfl | (simp; done) | (simp [*]; done)), (by first | rfl | (simp; done) | (simp [*]; done)), (by first | rfl | (simp; done) | (simp [*]; done)), (by first | rfl | (simp; done) | (simp [*]; done)), H', ⟨Nat.le_refl _⟩, ⟨by (with_reducible repeat (first | apply Kd.R_alloc | apply Kd.R_drewN | apply Kd.R_drew)); exact HO_1.out⟩, ⟨by (with_reducible repeat (first | apply Kd.R_alloc | apply Kd.R_drewN | apply Kd.R_drew)); exact HO_9.out⟩, ⟨by (with_reducible repeat (first | apply Kd.R_alloc | apply Kd.R_drewN | apply Kd.R_drew)); exact HO_10.out⟩, ⟨by (with_reducible repeat (first | apply Kd.R_alloc | apply Kd.R_drewN | apply Kd.R_drew)); exact HO_12.out⟩, ⟨by repeat (first | (with_reducible first | exact HB.out | apply below_alloc | apply pw_below_drewN | apply below_drew1) | exact HB.out)⟩⟩
       case round =>
        clear H'
        try clear c1
        try clear c2
        try clear p2
        try clear c3
        try clear c7
        try clear c7b0
        try clear c7b1
        try clear c8
        try clear c13
        try clear c24
        try clear c24b0
        try clear c24b1
        try clear c25
        try clear c25b0
        try clear c25b1
        try clear c26
        try clear c26b0
        try clear c26b1
        try clear c27
        try clear c27b0
        try clear c27b1
        try clear c34
        try clear p2
        obtain ⟨x14_3, x15_3, x16_3, x84_3, rfl, rfl, rfl, rfl, HA, HK3, HO_1, HO_9, HO_10, HO_12, HB⟩ := hrel
        cases gk with
        | zero => exact absurd HA.out (by simp [ck_BalanceAddsUp.l0])
        | succ k3 =>
         have H := HA.out
         clear HA
         simp only [ck_BalanceAddsUp.l0] at H
         by_cases c36 : x84_3 < (t185.length : Int)
         ·rw [if_pos c36] at H
          have c36b0 : decide (x84_3 < (t185.length : Int)) = true := decide_eq_true c36
          clear c36
          by_cases c37 : 0 ≤ x84_3
          ·rw [if_pos c37] at H
           have c37b0 : decide (0 ≤ x84_3) = true := decide_eq_true c37
           clear c37
           by_cases c38 : x84_3 < (t178.length : Int)
           ·rw [if_pos c38] at H
            have c38b0 : decide (x84_3 < (t178.length : Int)) = true := decide_eq_true c38
            clear c38
            by_cases c39 : x84_3 < (t179.length : Int)
            ·rw [if_pos c39] at H
             have c39b0 : decide (x84_3 < (t179.length : Int)) = true := decide_eq_true c39
             clear c39
             by_cases c40 : x84_3 < (t185.length : Int)
             ·rw [if_pos c40] at H
              have c40b0 : decide (x84_3 < (t185.length : Int)) = true := decide_eq_true c40
              clear c40
              have H' := Aside0.mk H
              clear H
              obtain ⟨Ao41, co41, eo41⟩ := Kd.R_slice HO_9.out
              subst eo41
              have p189 : 0 ≤ (x84_3 : Int) := of_decide_eq_true (by first | (with_reducible assumption) | assumption)
              have q189 : x84_3 < (t178.length : Int) := of_decide_eq_true (by first | (with_reducible assumption) | assumption)
              obtain ⟨ad189, e189, hx189_0⟩ := Kd.at_int (Kd.R_reads' HO_9.out).2.2 x84_3 p189 q189
              cases e189
              replace p189 := eq_true p189
              replace q189 := eq_true q189
              obtain ⟨Ao42, co42, eo42⟩ := Kd.R_slice HO_10.out
              subst eo42
              have p190 : 0 ≤ (x84_3 : Int) := of_decide_eq_true (by first | (with_reducible assumption) | assumption)
              have q190 : x84_3 < (t179.length : Int) := of_decide_eq_true (by first | (with_reducible assumption) | assumption)
              obtain ⟨ad190, e190, hx190_0⟩ := Kd.at_int (Kd.R_reads' HO_10.out).2.2 x84_3 p190 q190
              cases e190
              replace p190 := eq_true p190
              replace q190 := eq_true q190
              have p191 : 0 ≤ (x84_3 : Int) := of_decide_eq_true (by first | (with_reducible assumption) | assumption)
              have q191 : x84_3 < (t185.length : Int) := of_decide_eq_true (by first | (with_reducible assumption) | assumption)
              obtain ⟨ad191, e191, hx191_0⟩ := Kd.at_int (Kd.R_reads' HO_12.out).2.2 x84_3 p191 q191
              cases e191
              replace p191 := eq_true p191
              replace q191 := eq_true q191
              go_wp2
              repeat (go_quiet (fail); try go_wp2)
              go_roundg k3
              case measure => have := HJ4.out; have := HJ18.out; have := HK3.out; omega
              case rel => exact ⟨(wrap64 (x14_3 + (rd t178 x84_3))), (wrap64 (x15_3 + (rd t179 x84_3))), (wrap64 (x16_3 + (rd t185 x84_3))), (wrap64 (x84_3 + 1)), (by first | rfl | (simp; done) | (simp [*]; done)), (by first | rfl | (simp; done) | (simp [*]; done)), (by first | rfl | (simp; done) | (simp [*]; done)), (by first | rfl | (simp; done) | (simp [*]; done)), H', ⟨by have := HJ4.out; have := HJ18.out; have := HK3.out; omega⟩, ⟨by (with_reducible repeat (first | apply Kd.R_alloc | apply Kd.R_drewN | apply Kd.R_drew)); exact HO_1.out⟩, ⟨by (with_reducible repeat (first | apply Kd.R_alloc | apply Kd.R_drewN | apply Kd.R_drew)); exact HO_9.out⟩, ⟨by (with_reducible repeat (first | apply Kd.R_alloc | apply Kd.R_drewN | apply Kd.R_drew)); exact HO_10.out⟩, ⟨by (with_reducible repeat (first | apply Kd.R_alloc | apply Kd.R_drewN | apply Kd.R_drew)); exact HO_12.out⟩, ⟨by repeat (first | (with_reducible first | exact HB.out | apply below_alloc | apply pw_below_drewN | apply below_drew1) | exact HB.out)⟩⟩
             ·rw [if_neg c40] at H
              exact absurd H (by simp)
            ·rw [if_neg c39] at H
             exact absurd H (by simp)
           ·rw [if_neg c38] at H
            exact absurd H (by simp)
          ·rw [if_neg c37] at H
           exact absurd H (by simp)
         ·rw [if_neg c36] at H
          have c36b0 : decide (x84_3 < (t185.length : Int)) = false := decide_eq_false c36
          clear c36
          have H' := Aside0.mk H
          clear H
          go_wp2
          repeat (go_quiet (fail); try go_wp2)
          go_loopg [108] k3 (fun kq v108 w' => ∃ (x108_4 : Int), v108 = .int .i64 x108_4 ∧ Aside0 (ck_BalanceAddsUp.l1 kq t174 t177 t178 t179 t185 x14_3 x15_3 x16_3 (t185.length : Int) x108_4 = some r) ∧ Aside0 (kq ≤ k3) ∧ Aside0 (Kd.R k80 80 w' w.heap.size (fun _ => True) (.slice Ao21 t174.length co21) t174) ∧ Aside0 (Kd.R (Kd.int .i64) 3 w' w.heap.size (fun k_ => some k_ ≠ (v183 : Value).ownBlock ∧ some k_ ≠ ((.slice Ao35 t185.length co35) : Value).ownBlock) v181 t178) ∧ Aside0 (Kd.R (Kd.int .i64) 3 w' w.heap.size (fun k_ => some k_ ≠ (v181 : Value).ownBlock ∧ some k_ ≠ ((.slice Ao35 t185.length co35) : Value).ownBlock) v183 t179) ∧ Aside0 (Kd.R (Kd.int .i64) 3 w' w.heap.size (fun k_ => some k_ ≠ (v181 : Value).ownBlock ∧ some k_ ≠ (v183 : Value).ownBlock) (.slice Ao35 t185.length co35) t185) ∧ Aside0 (Below w.heap.size w w'))
          case atStart => exact ⟨(0), (by first | rfl | (simp; done) | (simp [*]; done)), H', ⟨Nat.le_refl _⟩, ⟨by (with_reducible repeat (first | apply Kd.R_alloc | apply Kd.R_drewN | apply Kd.R_drew)); exact HO_1.out⟩, ⟨by (with_reducible repeat (first | apply Kd.R_alloc | apply Kd.R_drewN | apply Kd.R_drew)); exact HO_9.out⟩, ⟨by (with_reducible repeat (first | apply Kd.R_alloc | apply Kd.R_drewN | apply Kd.R_drew)); exact HO_10.out⟩, ⟨by (with_reducible repeat (first | apply Kd.R_alloc | apply Kd.R_drewN | apply Kd.R_drew)); exact HO_12.out⟩, ⟨by repeat (first | (with_reducible first | exact HB.out | apply below_alloc | apply pw_below_drewN | apply below_drew1) | exact HB.out)⟩⟩
          case round =>
           clear H'
           try clear c1
           try clear p1
           try clear q1
           try clear hx1
           try clear c2
           try clear p2
           try clear c3
           try clear c4
           try clear p6
           try clear c7
           try clear c7b0
           try clear c7b1
           try clear c8
           try clear c13
           try clear p18
           try clear q18
           try clear hx18
           try clear p19
           try clear q19
           try clear hx19
           try clear c24
           try clear c24b0
           try clear c24b1
           try clear c25
           try clear c25b0
           try clear c25b1
           try clear c26
           try clear c26b0
           try clear c26b1
           try clear c27
           try clear c27b0
           try clear c27b1
           try clear c34
           try clear c36
           try clear c36b0
           try clear c37
           try clear c37b0
           try clear c38
           try clear c38b0
           try clear c39
           try clear c39b0
           try clear c40
           try clear c40b0
           try clear hx189_0
           try clear hx190_0
           try clear hx191_0
           try clear p189
           try clear p190
           try clear p191
           try clear p2
           try clear q189
           try clear q190
           try clear q191
           obtain ⟨x108_4, rfl, HA, HK4, HO_1, HO_9, HO_10, HO_12, HB⟩ := hrel
           cases gk with
           | zero => exact absurd HA.out (by simp [ck_BalanceAddsUp.l1])
           | succ k4 =>
            have H := HA.out
            clear HA
            simp only [ck_BalanceAddsUp.l1] at H
            by_cases c43 : x108_4 < (t185.length : Int)
            ·rw [if_pos c43] at H
             have c43b0 : decide (x108_4 < (t185.length : Int)) = true := decide_eq_true c43
             clear c43
             by_cases c44 : 0 ≤ x108_4
             ·rw [if_pos c44] at H
              have c44b0 : decide (0 ≤ x108_4) = true := decide_eq_true c44
              clear c44
              by_cases c45 : x108_4 < (t185.length : Int)
              ·rw [if_pos c45] at H
               have c45b0 : decide (x108_4 < (t185.length : Int)) = true := decide_eq_true c45
               clear c45
               by_cases c46 : x108_4 < (t178.length : Int)
               ·rw [if_pos c46] at H
                have c46b0 : decide (x108_4 < (t178.length : Int)) = true := decide_eq_true c46
                clear c46
                by_cases c47 : (rd t185 x108_4) < (rd t178 x108_4)
                ·rw [if_pos c47] at H
                 have c47b0 : decide ((rd t185 x108_4) < (rd t178 x108_4)) = true := decide_eq_true c47
                 clear c47
                 obtain rfl := Option.some.inj H
                 have p192 : 0 ≤ (x108_4 : Int) := of_decide_eq_true (by first | (with_reducible assumption) | assumption)
                 have q192 : x108_4 < (t185.length : Int) := of_decide_eq_true (by first | (with_reducible assumption) | assumption)
                 obtain ⟨ad192, e192, hx192_0⟩ := Kd.at_int (Kd.R_reads' HO_12.out).2.2 x108_4 p192 q192
                 cases e192
                 replace p192 := eq_true p192
                 replace q192 := eq_true q192
                 obtain ⟨Ao48, co48, eo48⟩ := Kd.R_slice HO_9.out
                 subst eo48
                 have p193 : 0 ≤ (x108_4 : Int) := of_decide_eq_true (by first | (with_reducible assumption) | assumption)
                 have q193 : x108_4 < (t178.length : Int) := of_decide_eq_true (by first | (with_reducible assumption) | assumption)
                 obtain ⟨ad193, e193, hx193_0⟩ := Kd.at_int (Kd.R_reads' HO_9.out).2.2 x108_4 p193 q193
                 cases e193
                 replace p193 := eq_true p193
                 replace q193 := eq_true q193
                 go_wp2
                 repeat (go_quiet (fail); try go_wp2)
                 go_ret
                 exact ⟨by first | rfl | (simp [errW_none, errW_some] <;> rfl) | (simp [*, errW_none, errW_some] <;> rfl), by repeat (first | (with_reducible first | exact HB.out | apply below_alloc | apply pw_below_drewN | apply below_drew1) | exact HB.out)⟩
                ·rw [if_neg c47] at H
                 have c47b0 : decide ((rd t185 x108_4) < (rd t178 x108_4)) = false := decide_eq_false c47
                 clear c47
                 by_cases c49 : t177 ≤ x15_3
                 ·rw [if_pos c49] at H
                  have c49b0 : decide (t177 ≤ x15_3) = true := decide_eq_true c49
                  clear c49
                  by_cases c50 : x108_4 < (t179.length : Int)
                  ·rw [if_pos c50] at H
                   have c50b0 : decide (x108_4 < (t179.length : Int)) = true := decide_eq_true c50
                   clear c50
                   by_cases c51 : (rd t185 x108_4) > (rd t179 x108_4)
                   ·rw [if_pos c51] at H
                    have c51b0 : decide ((rd t179 x108_4) < (rd t185 x108_4)) = true := decide_eq_true c51
                    clear c51
                    obtain rfl := Option.some.inj H
                    have p192 : 0 ≤ (x108_4 : Int) := of_decide_eq_true (by first | (with_reducible assumption) | assumption)
                    have q192 : x108_4 < (t185.length : Int) := of_decide_eq_true (by first | (with_reducible assumption) | assumption)
                    obtain ⟨ad192, e192, hx192_0⟩ := Kd.at_int (Kd.R_reads' HO_12.out).2.2 x108_4 p192 q192
                    cases e192
                    replace p192 := eq_true p192
                    replace q192 := eq_true q192
                    obtain ⟨Ao52, co52, eo52⟩ := Kd.R_slice HO_9.out
                    subst eo52
                    have p193 : 0 ≤ (x108_4 : Int) := of_decide_eq_true (by first | (with_reducible assumption) | assumption)
                    have q193 : x108_4 < (t178.length : Int) := of_decide_eq_true (by first | (with_reducible assumption) | assumption)
                    obtain ⟨ad193, e193, hx193_0⟩ := Kd.at_int (Kd.R_reads' HO_9.out).2.2 x108_4 p193 q193
                    cases e193
                    replace p193 := eq_true p193
                    replace q193 := eq_true q193
                    have p194 : 0 ≤ (x108_4 : Int) := of_decide_eq_true (by first | (with_reducible assumption) | assumption)
                    have q194 : x108_4 < (t185.length : Int) := of_decide_eq_true (by first | (with_reducible assumption) | assumption)
                    obtain ⟨ad194, e194, hx194_0⟩ := Kd.at_int (Kd.R_reads' HO_12.out).2.2 x108_4 p194 q194
                    obtain rfl : ad192 = ad194 := (by injection e194)
                    replace p194 := eq_true p194
                    replace q194 := eq_true q194
                    obtain ⟨Ao53, co53, eo53⟩ := Kd.R_slice HO_10.out
                    subst eo53
                    have p195 : 0 ≤ (x108_4 : Int) := of_decide_eq_true (by first | (with_reducible assumption) | assumption)
                    have q195 : x108_4 < (t179.length : Int) := of_decide_eq_true (by first | (with_reducible assumption) | assumption)
                    obtain ⟨ad195, e195, hx195_0⟩ := Kd.at_int (Kd.R_reads' HO_10.out).2.2 x108_4 p195 q195
                    cases e195
                    replace p195 := eq_true p195
                    replace q195 := eq_true q195
                    go_wp2
                    repeat (go_quiet (fail); try go_wp2)
                    go_ret
                    exact ⟨by first | rfl | (simp [errW_none, errW_some] <;> rfl) | (simp [*, errW_none, errW_some] <;> rfl), by repeat (first | (with_reducible first | exact HB.out | apply below_alloc | apply pw_below_drewN | apply below_drew1) | exact HB.out)⟩
                   ·rw [if_neg c51] at H
                    have c51b0 : decide ((rd t179 x108_4) < (rd t185 x108_4)) = false := decide_eq_false c51
                    clear c51
                    have H' := Aside0.mk H
                    clear H
                    have p192 : 0 ≤ (x108_4 : Int) := of_decide_eq_true (by first | (with_reducible assumption) | assumption)
                    have q192 : x108_4 < (t185.length : Int) := of_decide_eq_true (by first | (with_reducible assumption) | assumption)
                    obtain ⟨ad192, e192, hx192_0⟩ := Kd.at_int (Kd.R_reads' HO_12.out).2.2 x108_4 p192 q192
                    cases e192
                    replace p192 := eq_true p192
                    replace q192 := eq_true q192
                    obtain ⟨Ao54, co54, eo54⟩ := Kd.R_slice HO_9.out
                    subst eo54
                    have p193 : 0 ≤ (x108_4 : Int) := of_decide_eq_true (by first | (with_reducible assumption) | assumption)
                    have q193 : x108_4 < (t178.length : Int) := of_decide_eq_true (by first | (with_reducible assumption) | assumption)
                    obtain ⟨ad193, e193, hx193_0⟩ := Kd.at_int (Kd.R_reads' HO_9.out).2.2 x108_4 p193 q193
                    cases e193
                    replace p193 := eq_true p193
                    replace q193 := eq_true q193
                    have p194 : 0 ≤ (x108_4 : Int) := of_decide_eq_true (by first | (with_reducible assumption) | assumption)
                    have q194 : x108_4 < (t185.length : Int) := of_decide_eq_true (by first | (with_reducible assumption) | assumption)
                    obtain ⟨ad194, e194, hx194_0⟩ := Kd.at_int (Kd.R_reads' HO_12.out).2.2 x108_4 p194 q194
                    obtain rfl : ad192 = ad194 := (by injection e194)
                    replace p194 := eq_true p194
                    replace q194 := eq_true q194
                    obtain ⟨Ao55, co55, eo55⟩ := Kd.R_slice HO_10.out
                    subst eo55
                    have p195 : 0 ≤ (x108_4 : Int) := of_decide_eq_true (by first | (with_reducible assumption) | assumption)
                    have q195 : x108_4 < (t179.length : Int) := of_decide_eq_true (by first | (with_reducible assumption) | assumption)
                    obtain ⟨ad195, e195, hx195_0⟩ := Kd.at_int (Kd.R_reads' HO_10.out).2.2 x108_4 p195 q195
                    cases e195
                    replace p195 := eq_true p195
                    replace q195 := eq_true q195
                    go_wp2
                    repeat (go_quiet (fail); try go_wp2)
                    go_roundg k4
                    case measure => have := HJ4.out; have := HJ18.out; have := HK3.out; have := HK4.out; omega
                    case rel => exact ⟨(wrap64 (x108_4 + 1)), (by first | rfl | (simp; done) | (simp [*]; done)), H', ⟨by have := HJ4.out; have := HJ18.out; have := HK3.out; have := HK4.out; omega⟩, ⟨by (with_reducible repeat (first | apply Kd.R_alloc | apply Kd.R_drewN | apply Kd.R_drew)); exact HO_1.out⟩, ⟨by (with_reducible repeat (first | apply Kd.R_alloc | apply Kd.R_drewN | apply Kd.R_drew)); exact HO_9.out⟩, ⟨by (with_reducible repeat (first | apply Kd.R_alloc | apply Kd.R_drewN | apply Kd.R_drew)); exact HO_10.out⟩, ⟨by (with_reducible repeat (first | apply Kd.R_alloc | apply Kd.R_drewN | apply Kd.R_drew)); exact HO_12.out⟩, ⟨by repeat (first | (with_reducible first | exact HB.out | apply below_alloc | apply pw_below_drewN | apply below_drew1) | exact HB.out)⟩⟩
                  ·rw [if_neg c50] at H
                   exact absurd H (by simp)
                 ·rw [if_neg c49] at H
                  have c49b0 : decide (t177 ≤ x15_3) = false := decide_eq_false c49
                  clear c49
                  have H' := Aside0.mk H
                  clear H
                  have p192 : 0 ≤ (x108_4 : Int) := of_decide_eq_true (by first | (with_reducible assumption) | assumption)
                  have q192 : x108_4 < (t185.length : Int) := of_decide_eq_true (by first | (with_reducible assumption) | assumption)
                  obtain ⟨ad192, e192, hx192_0⟩ := Kd.at_int (Kd.R_reads' HO_12.out).2.2 x108_4 p192 q192
                  cases e192
                  replace p192 := eq_true p192
                  replace q192 := eq_true q192
                  obtain ⟨Ao56, co56, eo56⟩ := Kd.R_slice HO_9.out
                  subst eo56
                  have p193 : 0 ≤ (x108_4 : Int) := of_decide_eq_true (by first | (with_reducible assumption) | assumption)
                  have q193 : x108_4 < (t178.length : Int) := of_decide_eq_true (by first | (with_reducible assumption) | assumption)
                  obtain ⟨ad193, e193, hx193_0⟩ := Kd.at_int (Kd.R_reads' HO_9.out).2.2 x108_4 p193 q193
                  cases e193
                  replace p193 := eq_true p193
                  replace q193 := eq_true q193
                  go_wp2
                  repeat (go_quiet (fail); try go_wp2)
                  go_roundg k4
                  case measure => have := HJ4.out; have := HJ18.out; have := HK3.out; have := HK4.out; omega
                  case rel => exact ⟨(wrap64 (x108_4 + 1)), (by first | rfl | (simp; done) | (simp [*]; done)), H', ⟨by have := HJ4.out; have := HJ18.out; have := HK3.out; have := HK4.out; omega⟩, ⟨by (with_reducible repeat (first | apply Kd.R_alloc | apply Kd.R_drewN | apply Kd.R_drew)); exact HO_1.out⟩, ⟨by (with_reducible repeat (first | apply Kd.R_alloc | apply Kd.R_drewN | apply Kd.R_drew)); exact HO_9.out⟩, ⟨by (with_reducible repeat (first | apply Kd.R_alloc | apply Kd.R_drewN | apply Kd.R_drew)); exact HO_10.out⟩, ⟨by (with_reducible repeat (first | apply Kd.R_alloc | apply Kd.R_drewN | apply Kd.R_drew)); exact HO_12.out⟩, ⟨by repeat (first | (with_reducible first | exact HB.out | apply below_alloc | apply pw_below_drewN | apply below_drew1) | exact HB.out)⟩⟩
               ·rw [if_neg c46] at H
                exact absurd H (by simp)
              ·rw [if_neg c45] at H
               exact absurd H (by simp)
             ·rw [if_neg c44] at H
              exact absurd H (by simp)
            ·rw [if_neg c43] at H
             have c43b0 : decide (x108_4 < (t185.length : Int)) = false := decide_eq_false c43
             clear c43
             have H' := Aside0.mk H
             clear H
             go_wp2
             repeat (go_quiet (fail); try go_wp2)
             go_loopg [139] k4 (fun kq v139 w' => ∃ (x139_5 : Int), v139 = .int .i64 x139_5 ∧ Aside0 (ck_BalanceAddsUp.l2 kq t177 t185 x14_3 x15_3 x16_3 t174 (t174.length : Int) x139_5 = some r) ∧ Aside0 (kq ≤ k4) ∧ Aside0 (Kd.R (Kd.int .i64) 3 w' w.heap.size (fun _ => True) (.slice Ao35 t185.length co35) t185) ∧ Aside0 (Kd.R k80 80 w' w.heap.size (fun _ => True) (.slice Ao21 t174.length co21) t174) ∧ Aside0 (Below w.heap.size w w'))
             case atStart => exact ⟨(0), (by first | rfl | (simp; done) | (simp [*]; done)), H', ⟨Nat.le_refl _⟩, ⟨by (with_reducible repeat (first | apply Kd.R_alloc | apply Kd.R_drewN | apply Kd.R_drew)); exact Kd.R_mono HO_12.out (fun _ hk => trivial)⟩, ⟨by (with_reducible repeat (first | apply Kd.R_alloc | apply Kd.R_drewN | apply Kd.R_drew)); exact HO_1.out⟩, ⟨by repeat (first | (with_reducible first | exact HB.out | apply below_alloc | apply pw_below_drewN | apply below_drew1) | exact HB.out)⟩⟩
             case round =>
              clear H'
              try clear c1
              try clear p1
              try clear q1
              try clear hx1
              try clear c2
              try clear p2
              try clear c3
              try clear c4
              try clear c5
              try clear p6
              try clear c7
              try clear c7b0
              try clear c7b1
              try clear c8
              try clear c13
              try clear p18
              try clear q18
              try clear hx18
              try clear p19
              try clear q19
              try clear hx19
              try clear c24
              try clear c24b0
              try clear c24b1
              try clear c25
              try clear c25b0
              try clear c25b1
              try clear c26
              try clear c26b0
              try clear c26b1
              try clear c27
              try clear c27b0
              try clear c27b1
              try clear c34
              try clear c36
              try clear c36b0
              try clear c37
              try clear c37b0
              try clear c38
              try clear c38b0
              try clear c39
              try clear c39b0
              try clear c40
              try clear c40b0
              try clear c43
              try clear c43b0
              try clear c44
              try clear c44b0
              try clear c45
              try clear c45b0
              try clear c46
              try clear c46b0
              try clear c47
              try clear c47b0
              try clear c49
              try clear c49b0
              try clear c50
              try clear c50b0
              try clear c51
              try clear c51b0
              try clear hx189_0
              try clear hx190_0
              try clear hx191_0
              try clear hx192_0
              try clear hx193_0
              try clear hx194_0
              try clear hx195_0
              try clear p1
              try clear p18
              try clear p189
              try clear p19
              try clear p190
              try clear p191
              try clear p192
              try clear p193
              try clear p194
              try clear p195
              try clear p2
              try clear p6
              try clear q1
              try clear q18
              try clear q189
              try clear q19
              try clear q190
              try clear q191
              try clear q192
              try clear q193
              try clear q194
              try clear q195
              obtain ⟨x139_5, rfl, HA, HK5, HO_12, HO_137, HB⟩ := hrel
              cases gk with
              | zero => exact absurd HA.out (by simp [ck_BalanceAddsUp.l2])
              | succ k5 =>
               have H := HA.out
               clear HA
               simp only [ck_BalanceAddsUp.l2] at H
               by_cases c57 : x139_5 < (t174.length : Int)
               ·rw [if_pos c57] at H
                have c57b0 : decide (x139_5 < (t174.length : Int)) = true := decide_eq_true c57
                clear c57
                by_cases c58 : 0 ≤ x139_5
                ·rw [if_pos c58] at H
                 have c58b0 : decide (0 ≤ x139_5) = true := decide_eq_true c58
                 clear c58
                 by_cases c59 : x139_5 < (t174.length : Int)
                 ·rw [if_pos c59] at H
                  have c59b0 : decide (x139_5 < (t174.length : Int)) = true := decide_eq_true c59
                  clear c59
                  by_cases c60 : 0 ≤ ((rd_T80 t174 x139_5).f0)
                  ·rw [if_pos c60] at H
                   have c60b0 := eq_true c60
                   have c60b1 : decide (0 ≤ ((rd_T80 t174 x139_5).f0)) = true := decide_eq_true c60
                   clear c60
                   by_cases c61 : ((rd_T80 t174 x139_5).f0) ≤ (wrap64 (((rd_T80 t174 x139_5).f0) + ((rd_T80 t174 x139_5).f1)))
                   ·rw [if_pos c61] at H
                    have c61b0 := eq_true c61
                    have c61b1 : decide (((rd_T80 t174 x139_5).f0) ≤ (wrap64 (((rd_T80 t174 x139_5).f0) + ((rd_T80 t174 x139_5).f1)))) = true := decide_eq_true c61
                    by_cases c62 : (wrap64 (((rd_T80 t174 x139_5).f0) + ((rd_T80 t174 x139_5).f1))) ≤ (t185.length : Int)
                    ·rw [if_pos c62] at H
                     have c62b0 := eq_true c62
                     have c62b1 : decide ((wrap64 (((rd_T80 t174 x139_5).f0) + ((rd_T80 t174 x139_5).f1))) ≤ (t185.length : Int)) = true := decide_eq_true c62
                     obtain ⟨y198, hy198⟩ : ∃ y_ : List Int, y_ = ((t185.take ((wrap64 (((rd_T80 t174 x139_5).f0) + ((rd_T80 t174 x139_5).f1))) : Int).toNat).drop (((rd_T80 t174 x139_5).f0) : Int).toNat) := ⟨_, rfl⟩
                     replace H : (ck_BalanceAddsUp.l3 k5 t177 t185 x14_3 x15_3 x16_3 0 t174 (t174.length : Int) x139_5 y198 (y198.length : Int) 0 ((rd_T80 t174 x139_5).f0) ((rd_T80 t174 x139_5).f1) ((rd_T80 t174 x139_5).f2) ((rd_T80 t174 x139_5).f3)) = some r := by first | (rw [hy198]; with_reducible exact H) | (have H2_ := (Option.bind_some _ _).symm.trans H; rw [hy198]; with_reducible exact H2_) | (have H2_ := (Option.bind_some _ _).symm.trans H; with_reducible exact H2_) | with_reducible exact H | (rw [hy198]; exact H) | exact H
                     have Ny198 := Aside0.mk hy198
                     clear hy198
                     have H' := Aside0.mk H
                     clear H
                     have p196 : 0 ≤ (x139_5 : Int) := of_decide_eq_true (by first | (with_reducible assumption) | assumption)
                     have q196 : x139_5 < (t174.length : Int) := of_decide_eq_true (by first | (with_reducible assumption) | assumption)
                     obtain ⟨ad196, e196, hx196_0, hx196_1, hx196_2, hx196_3⟩ := at_T80 (Kd.R_reads' HO_137.out).2.2 x139_5 p196 q196
                     cases e196
                     replace p196 := eq_true p196
                     replace q196 := eq_true q196
                     go_wp2_with (first | ((with_reducible refine gate_dst (N := 20) rfl ?_); (try (refine gate_guard (by rfl) ?_; dsimp only)); refine box_event ?hg (N := 20) ?hd (cs := #[.int .i64 0, .int .i64 0, .int .i64 0, .int .i64 0]) (t := 80) ?hr ?_; (case hd => rfl); (case hg => rfl); (case hr => first | (go_simp; done) | (go_simp; rfl)); intro gb197 hg w63 hbox hb; have n0_ := Aside0.mk (Kd.R_below (by (with_reducible repeat (first | apply Kd.R_alloc | apply Kd.R_drewN | apply Kd.R_drew)); exact HO_12.out) hb); have n1_ := Aside0.mk (Kd.R_below (Kd.R_elderB (by (with_reducible repeat (first | apply Kd.R_alloc | apply Kd.R_drewN | apply Kd.R_drew)); exact HO_137.out) gb197 (Nat.le_of_eq hg.symm)) hb); have n2_ := Aside0.mk (below_step (by repeat (first | (with_reducible first | exact HB.out | apply below_alloc | apply pw_below_drewN | apply below_drew1) | exact HB.out)) hb); have n3_ := Aside0.mk (hbox); have n4_ := Aside0.mk ((by rw [hg]; exact (below_size (by repeat (first | (with_reducible first | exact HB.out | apply below_alloc | apply pw_below_drewN | apply below_drew1) | exact HB.out))) : w.heap.size ≤ gb197)); have n5_ := Aside0.mk ((by rw [hg]; exact (below_size (by repeat (first | (with_reducible first | exact HB.out | apply below_alloc | apply pw_below_drewN | apply below_drew1) | exact HB.out))) : w.heap.size ≤ gb197)); clear HO_12; clear HO_137; clear HB; have HO_12 := n0_; have HO_137 := n1_; have HB := n2_; have BK197 := n3_; have GW197 := n4_; have GE197 := n5_; clear n0_ n1_ n2_ n3_ n4_ n5_; clear hb hbox hg; have hcz64_0 : w63.cell? ⟨gb197, 0, none⟩ = some (.int .i64 0) := (blk_cell BK197.out 0).trans rfl; have hcz64_1 : w63.cell? ⟨gb197, 1, none⟩ = some (.int .i64 0) := (blk_cell BK197.out 1).trans rfl; have hcz64_2 : w63.cell? ⟨gb197, 2, none⟩ = some (.int .i64 0) := (blk_cell BK197.out 2).trans rfl; have hcz64_3 : w63.cell? ⟨gb197, 3, none⟩ = some (.int .i64 0) := (blk_cell BK197.out 3).trans rfl; have hfz64_0 := blk_frozen BK197.out 0; have hfz64_1 := blk_frozen BK197.out 1; have hfz64_2 := blk_frozen BK197.out 2; have hfz64_3 := blk_frozen BK197.out 3) | ((with_reducible refine gate_store (t := 80) (p := 20) rfl ?_); (try (rw [drewN_self w63]; generalize hq_ : World.drewN w63 _ = w63; have n0_ := Aside0.mk (Kd.R_at hq_ HO_12.out); have n1_ := Aside0.mk (Kd.R_at hq_ HO_137.out); have n2_ := Aside0.mk (blk_at hq_ BK197.out); have n3_ := Aside0.mk (below_at hq_ HB.out); clear hq_ HO_12 HO_137 BK197 HB; have HO_12 := n0_; have HO_137 := n1_; have BK197 := n2_; have HB := n3_; clear n0_ n1_ n2_ n3_)); refine store_event (t := 80) (p := 20) (v := ?vo_w65) (w1 := ((((w63.setCell ⟨gb197, 0, none⟩ (.int .i64 ((rd_T80 t174 x139_5).f0))).setCell ⟨gb197, 1, none⟩ (.int .i64 ((rd_T80 t174 x139_5).f1))).setCell ⟨gb197, 2, none⟩ (.int .i64 ((rd_T80 t174 x139_5).f2))).setCell ⟨gb197, 3, none⟩ (.int .i64 ((rd_T80 t174 x139_5).f3)))) ?hg ?ho ?hn ?hr ?_; (case ho => rfl); (case hg => rfl); (case hn => rfl); (case hr => first | (go_simp; done) | (go_simp; rfl)); intro w65 hw; have n0_ : Aside0 (Kd.R (Kd.int .i64) 3 w65 w.heap.size (fun _ => True) (.slice Ao35 t185.length co35) t185) := ⟨(by rw [hw]; exact (by (with_reducible repeat (first | apply Kd.R_alloc | apply Kd.R_drewN | apply Kd.R_drew)); exact Kd.R_mono (Kd.R_far (p := ⟨gb197, 3, none⟩) (Kd.R_far (p := ⟨gb197, 2, none⟩) (Kd.R_far (p := ⟨gb197, 1, none⟩) (Kd.R_far (p := ⟨gb197, 0, none⟩) (Kd.R_types HO_12.out BK197.out (by decide)) (fun _ hk => hk.2) (.int .i64 ((rd_T80 t174 x139_5).f0))) (fun _ hk => hk.2) (.int .i64 ((rd_T80 t174 x139_5).f1))) (fun _ hk => hk.2) (.int .i64 ((rd_T80 t174 x139_5).f2))) (fun _ hk => hk.2) (.int .i64 ((rd_T80 t174 x139_5).f3))) (fun _ hk => trivial)))⟩; have n1_ : Aside0 (Kd.R k80 80 w65 w.heap.size (fun k_ => k_ ≠ gb197) (.slice (some ad196) t174.length co21) t174) := ⟨(by rw [hw]; exact (by (with_reducible repeat (first | apply Kd.R_alloc | apply Kd.R_drewN | apply Kd.R_drew)); exact Kd.R_mono (Kd.R_far (p := ⟨gb197, 3, none⟩) (Kd.R_far (p := ⟨gb197, 2, none⟩) (Kd.R_far (p := ⟨gb197, 1, none⟩) (Kd.R_far (p := ⟨gb197, 0, none⟩) (Kd.R_mono HO_137.out (fun k_ hk => (⟨hk, hk.2⟩ : _ ∧ k_ ≠ gb197))) (fun _ hk => hk.2) (.int .i64 ((rd_T80 t174 x139_5).f0))) (fun _ hk => hk.2) (.int .i64 ((rd_T80 t174 x139_5).f1))) (fun _ hk => hk.2) (.int .i64 ((rd_T80 t174 x139_5).f2))) (fun _ hk => hk.2) (.int .i64 ((rd_T80 t174 x139_5).f3))) (fun _ hk => hk.1.2)))⟩; have n2_ : Aside0 (w65.heap[gb197]? = some (.cells #[.int .i64 ((rd_T80 t174 x139_5).f0), .int .i64 ((rd_T80 t174 x139_5).f1), .int .i64 ((rd_T80 t174 x139_5).f2), .int .i64 ((rd_T80 t174 x139_5).f3)] 80 (0, 0))) := ⟨(by rw [hw]; exact (by (with_reducible repeat (first | refine blk_drewN ?_ _ | refine blk_drew ?_ | refine blk_alloc ?_ _)); refine blk_put (cs := #[.int .i64 ((rd_T80 t174 x139_5).f0), .int .i64 ((rd_T80 t174 x139_5).f1), .int .i64 ((rd_T80 t174 x139_5).f2), .int .i64 0]) ?_ 3 _ rfl; (with_reducible repeat (first | refine blk_drewN ?_ _ | refine blk_drew ?_ | refine blk_alloc ?_ _)); refine blk_put (cs := #[.int .i64 ((rd_T80 t174 x139_5).f0), .int .i64 ((rd_T80 t174 x139_5).f1), .int .i64 0, .int .i64 0]) ?_ 2 _ rfl; (with_reducible repeat (first | refine blk_drewN ?_ _ | refine blk_drew ?_ | refine blk_alloc ?_ _)); refine blk_put (cs := #[.int .i64 ((rd_T80 t174 x139_5).f0), .int .i64 0, .int .i64 0, .int .i64 0]) ?_ 1 _ rfl; (with_reducible repeat (first | refine blk_drewN ?_ _ | refine blk_drew ?_ | refine blk_alloc ?_ _)); refine blk_put (cs := #[.int .i64 0, .int .i64 0, .int .i64 0, .int .i64 0]) ?_ 0 _ rfl; (with_reducible repeat (first | refine blk_drewN ?_ _ | refine blk_drew ?_ | refine blk_alloc ?_ _)); exact BK197.out))⟩; have n3_ : Aside0 (Below w.heap.size w w65) := ⟨(by rw [hw]; exact (by repeat (first | (with_reducible first | exact HB.out | apply below_alloc | apply pw_below_drewN | apply below_drew1 | refine below_set ?_ GE197.out) | exact HB.out)))⟩; clear hw; clear HO_12; clear HO_137; clear BK197; clear HB; have HO_12 := n0_; have HO_137 := n1_; have BK197 := n2_; have HB := n3_; clear n0_ n1_ n2_ n3_; have hcz66_0 : w65.cell? ⟨gb197, 0, none⟩ = some (.int .i64 ((rd_T80 t174 x139_5).f0)) := (blk_cell BK197.out 0).trans rfl; have hcz66_1 : w65.cell? ⟨gb197, 1, none⟩ = some (.int .i64 ((rd_T80 t174 x139_5).f1)) := (blk_cell BK197.out 1).trans rfl; have hcz66_2 : w65.cell? ⟨gb197, 2, none⟩ = some (.int .i64 ((rd_T80 t174 x139_5).f2)) := (blk_cell BK197.out 2).trans rfl; have hcz66_3 : w65.cell? ⟨gb197, 3, none⟩ = some (.int .i64 ((rd_T80 t174 x139_5).f3)) := (blk_cell BK197.out 3).trans rfl; have hfz66_0 := blk_frozen BK197.out 0; have hfz66_1 := blk_frozen BK197.out 1; have hfz66_2 := blk_frozen BK197.out 2; have hfz66_3 := blk_frozen BK197.out 3; have q67 : ((wrap64 (((rd_T80 t174 x139_5).f0) + ((rd_T80 t174 x139_5).f1))) : Int) ≤ ((t185.length : Int) : Int) := of_decide_eq_true (by first | (with_reducible assumption) | assumption); obtain ⟨i067, hi067, _, hsz67, _⟩ := info_parts info3; have hroom67 : t185.length ≤ co35 := (Kd.R_reads' HO_12.out).2.1; have hC67 : Kd.C (Kd.int .i64) _ Ao35 t185.length t185 := (Kd.R_reads' HO_12.out).2.2; have ql67 : (((rd_T80 t174 x139_5).f0) : Int) ≤ ((wrap64 (((rd_T80 t174 x139_5).f0) + ((rd_T80 t174 x139_5).f1))) : Int) := of_decide_eq_true (by first | (with_reducible assumption) | assumption); have q067 : (0 : Int) ≤ (((rd_T80 t174 x139_5).f0) : Int) := of_decide_eq_true (by first | (with_reducible assumption) | assumption); have hcut67 := cut_mid (P := Try.prog) 29 3 .i64 .i64 Try.underlying29 hi067 1 hsz67 Ao35 t185.length co35 ((rd_T80 t174 x139_5).f0) (wrap64 (((rd_T80 t174 x139_5).f0) + ((rd_T80 t174 x139_5).f1))) q067 ql67 q67 hroom67; have hr67 := Kd.C_mid (lo := (((rd_T80 t174 x139_5).f0) : Int).toNat) (hi := ((wrap64 (((rd_T80 t174 x139_5).f0) + ((rd_T80 t174 x139_5).f1))) : Int).toNat) (c := co35) hC67 (by omega) (by omega) hroom67; obtain ⟨A67, hA67⟩ : ∃ A1, A1 = (if co35 = (((rd_T80 t174 x139_5).f0) : Int).toNat then Ao35 else (Ao35 : Option Addr).map (·.add ((((rd_T80 t174 x139_5).f0) : Int).toNat * 1))) := ⟨_, rfl⟩; obtain ⟨c67, hc67⟩ : ∃ c1, c1 = co35 - (((rd_T80 t174 x139_5).f0) : Int).toNat := ⟨_, rfl⟩; have hy67 : y198.length = ((wrap64 (((rd_T80 t174 x139_5).f0) + ((rd_T80 t174 x139_5).f1))) : Int).toNat - (((rd_T80 t174 x139_5).f0) : Int).toNat := (by rw [Ny198.out, List.length_drop, List.length_take] <;> omega); rw [show ((t185).take ((wrap64 (((rd_T80 t174 x139_5).f0) + ((rd_T80 t174 x139_5).f1))) : Int).toNat).drop (((rd_T80 t174 x139_5).f0) : Int).toNat = y198 from Ny198.out.symm] at hr67; replace hr67 : Kd.C (Kd.int .i64) _ A67 y198.length y198 := (by rw [hA67]; exact hr67); rw [← hy67, ← hA67, ← hc67] at hcut67; have HR201 := Aside0.mk hr67; have HC201 := Aside0.mk (show y198.length ≤ c67 from by rw [hy67, hc67]; exact Nat.sub_le_sub_right (Nat.le_trans (by omega) hroom67) _); clear hr67 hC67 hroom67 hi067 hsz67 hc67; have KY67 := Aside0.mk hy67; have KA67 := Aside0.mk hA67; clear hy67 hA67; have KL67 := Aside0.mk (show ((wrap64 (((rd_T80 t174 x139_5).f0) + ((rd_T80 t174 x139_5).f1))) : Int).toNat ≤ t185.length from by omega); have KM67 := Aside0.mk (show (((rd_T80 t174 x139_5).f0) : Int).toNat ≤ ((wrap64 (((rd_T80 t174 x139_5).f0) + ((rd_T80 t174 x139_5).f1))) : Int).toNat from by omega); replace q67 := eq_true q67))
                     repeat (go_quiet (first | ((with_reducible refine gate_dst (N := 20) rfl ?_); (try (refine gate_guard (by rfl) ?_; dsimp only)); refine box_event ?hg (N := 20) ?hd (cs := #[.int .i64 0, .int .i64 0, .int .i64 0, .int .i64 0]) (t := 80) ?hr ?_; (case hd => rfl); (case hg => rfl); (case hr => first | (go_simp; done) | (go_simp; rfl)); intro gb197 hg w63 hbox hb; have n0_ := Aside0.mk (Kd.R_below (by (with_reducible repeat (first | apply Kd.R_alloc | apply Kd.R_drewN | apply Kd.R_drew)); exact HO_12.out) hb); have n1_ := Aside0.mk (Kd.R_below (Kd.R_elderB (by (with_reducible repeat (first | apply Kd.R_alloc | apply Kd.R_drewN | apply Kd.R_drew)); exact HO_137.out) gb197 (Nat.le_of_eq hg.symm)) hb); have n2_ := Aside0.mk (below_step (by repeat (first | (with_reducible first | exact HB.out | apply below_alloc | apply pw_below_drewN | apply below_drew1) | exact HB.out)) hb); have n3_ := Aside0.mk (hbox); have n4_ := Aside0.mk ((by rw [hg]; exact (below_size (by repeat (first | (with_reducible first | exact HB.out | apply below_alloc | apply pw_below_drewN | apply below_drew1) | exact HB.out))) : w.heap.size ≤ gb197)); have n5_ := Aside0.mk ((by rw [hg]; exact (below_size (by repeat (first | (with_reducible first | exact HB.out | apply below_alloc | apply pw_below_drewN | apply below_drew1) | exact HB.out))) : w.heap.size ≤ gb197)); clear HO_12; clear HO_137; clear HB; have HO_12 := n0_; have HO_137 := n1_; have HB := n2_; have BK197 := n3_; have GW197 := n4_; have GE197 := n5_; clear n0_ n1_ n2_ n3_ n4_ n5_; clear hb hbox hg; have hcz64_0 : w63.cell? ⟨gb197, 0, none⟩ = some (.int .i64 0) := (blk_cell BK197.out 0).trans rfl; have hcz64_1 : w63.cell? ⟨gb197, 1, none⟩ = some (.int .i64 0) := (blk_cell BK197.out 1).trans rfl; have hcz64_2 : w63.cell? ⟨gb197, 2, none⟩ = some (.int .i64 0) := (blk_cell BK197.out 2).trans rfl; have hcz64_3 : w63.cell? ⟨gb197, 3, none⟩ = some (.int .i64 0) := (blk_cell BK197.out 3).trans rfl; have hfz64_0 := blk_frozen BK197.out 0; have hfz64_1 := blk_frozen BK197.out 1; have hfz64_2 := blk_frozen BK197.out 2; have hfz64_3 := blk_frozen BK197.out 3) | ((with_reducible refine gate_store (t := 80) (p := 20) rfl ?_); (try (rw [drewN_self w63]; generalize hq_ : World.drewN w63 _ = w63; have n0_ := Aside0.mk (Kd.R_at hq_ HO_12.out); have n1_ := Aside0.mk (Kd.R_at hq_ HO_137.out); have n2_ := Aside0.mk (blk_at hq_ BK197.out); have n3_ := Aside0.mk (below_at hq_ HB.out); clear hq_ HO_12 HO_137 BK197 HB; have HO_12 := n0_; have HO_137 := n1_; have BK197 := n2_; have HB := n3_; clear n0_ n1_ n2_ n3_)); refine store_event (t := 80) (p := 20) (v := ?vo_w65) (w1 := ((((w63.setCell ⟨gb197, 0, none⟩ (.int .i64 ((rd_T80 t174 x139_5).f0))).setCell ⟨gb197, 1, none⟩ (.int .i64 ((rd_T80 t174 x139_5).f1))).setCell ⟨gb197, 2, none⟩ (.int .i64 ((rd_T80 t174 x139_5).f2))).setCell ⟨gb197, 3, none⟩ (.int .i64 ((rd_T80 t174 x139_5).f3)))) ?hg ?ho ?hn ?hr ?_; (case ho => rfl); (case hg => rfl); (case hn => rfl); (case hr => first | (go_simp; done) | (go_simp; rfl)); intro w65 hw; have n0_ : Aside0 (Kd.R (Kd.int .i64) 3 w65 w.heap.size (fun _ => True) (.slice Ao35 t185.length co35) t185) := ⟨(by rw [hw]; exact (by (with_reducible repeat (first | apply Kd.R_alloc | apply Kd.R_drewN | apply Kd.R_drew)); exact Kd.R_mono (Kd.R_far (p := ⟨gb197, 3, none⟩) (Kd.R_far (p := ⟨gb197, 2, none⟩) (Kd.R_far (p := ⟨gb197, 1, none⟩) (Kd.R_far (p := ⟨gb197, 0, none⟩) (Kd.R_types HO_12.out BK197.out (by decide)) (fun _ hk => hk.2) (.int .i64 ((rd_T80 t174 x139_5).f0))) (fun _ hk => hk.2) (.int .i64 ((rd_T80 t174 x139_5).f1))) (fun _ hk => hk.2) (.int .i64 ((rd_T80 t174 x139_5).f2))) (fun _ hk => hk.2) (.int .i64 ((rd_T80 t174 x139_5).f3))) (fun _ hk => trivial)))⟩; have n1_ : Aside0 (Kd.R k80 80 w65 w.heap.size (fun k_ => k_ ≠ gb197) (.slice (some ad196) t174.length co21) t174) := ⟨(by rw [hw]; exact (by (with_reducible repeat (first | apply Kd.R_alloc | apply Kd.R_drewN | apply Kd.R_drew)); exact Kd.R_mono (Kd.R_far (p := ⟨gb197, 3, none⟩) (Kd.R_far (p := ⟨gb197, 2, none⟩) (Kd.R_far (p := ⟨gb197, 1, none⟩) (Kd.R_far (p := ⟨gb197, 0, none⟩) (Kd.R_mono HO_137.out (fun k_ hk => (⟨hk, hk.2⟩ : _ ∧ k_ ≠ gb197))) (fun _ hk => hk.2) (.int .i64 ((rd_T80 t174 x139_5).f0))) (fun _ hk => hk.2) (.int .i64 ((rd_T80 t174 x139_5).f1))) (fun _ hk => hk.2) (.int .i64 ((rd_T80 t174 x139_5).f2))) (fun _ hk => hk.2) (.int .i64 ((rd_T80 t174 x139_5).f3))) (fun _ hk => hk.1.2)))⟩; have n2_ : Aside0 (w65.heap[gb197]? = some (.cells #[.int .i64 ((rd_T80 t174 x139_5).f0), .int .i64 ((rd_T80 t174 x139_5).f1), .int .i64 ((rd_T80 t174 x139_5).f2), .int .i64 ((rd_T80 t174 x139_5).f3)] 80 (0, 0))) := ⟨(by rw [hw]; exact (by (with_reducible repeat (first | refine blk_drewN ?_ _ | refine blk_drew ?_ | refine blk_alloc ?_ _)); refine blk_put (cs := #[.int .i64 ((rd_T80 t174 x139_5).f0), .int .i64 ((rd_T80 t174 x139_5).f1), .int .i64 ((rd_T80 t174 x139_5).f2), .int .i64 0]) ?_ 3 _ rfl; (with_reducible repeat (first | refine blk_drewN ?_ _ | refine blk_drew ?_ | refine blk_alloc ?_ _)); refine blk_put (cs := #[.int .i64 ((rd_T80 t174 x139_5).f0), .int .i64 ((rd_T80 t174 x139_5).f1), .int .i64 0, .int .i64 0]) ?_ 2 _ rfl; (with_reducible repeat (first | refine blk_drewN ?_ _ | refine blk_drew ?_ | refine blk_alloc ?_ _)); refine blk_put (cs := #[.int .i64 ((rd_T80 t174 x139_5).f0), .int .i64 0, .int .i64 0, .int .i64 0]) ?_ 1 _ rfl; (with_reducible repeat (first | refine blk_drewN ?_ _ | refine blk_drew ?_ | refine blk_alloc ?_ _)); refine blk_put (cs := #[.int .i64 0, .int .i64 0, .int .i64 0, .int .i64 0]) ?_ 0 _ rfl; (with_reducible repeat (first | refine blk_drewN ?_ _ | refine blk_drew ?_ | refine blk_alloc ?_ _)); exact BK197.out))⟩; have n3_ : Aside0 (Below w.heap.size w w65) := ⟨(by rw [hw]; exact (by repeat (first | (with_reducible first | exact HB.out | apply below_alloc | apply pw_below_drewN | apply below_drew1 | refine below_set ?_ GE197.out) | exact HB.out)))⟩; clear hw; clear HO_12; clear HO_137; clear BK197; clear HB; have HO_12 := n0_; have HO_137 := n1_; have BK197 := n2_; have HB := n3_; clear n0_ n1_ n2_ n3_; have hcz66_0 : w65.cell? ⟨gb197, 0, none⟩ = some (.int .i64 ((rd_T80 t174 x139_5).f0)) := (blk_cell BK197.out 0).trans rfl; have hcz66_1 : w65.cell? ⟨gb197, 1, none⟩ = some (.int .i64 ((rd_T80 t174 x139_5).f1)) := (blk_cell BK197.out 1).trans rfl; have hcz66_2 : w65.cell? ⟨gb197, 2, none⟩ = some (.int .i64 ((rd_T80 t174 x139_5).f2)) := (blk_cell BK197.out 2).trans rfl; have hcz66_3 : w65.cell? ⟨gb197, 3, none⟩ = some (.int .i64 ((rd_T80 t174 x139_5).f3)) := (blk_cell BK197.out 3).trans rfl; have hfz66_0 := blk_frozen BK197.out 0; have hfz66_1 := blk_frozen BK197.out 1; have hfz66_2 := blk_frozen BK197.out 2; have hfz66_3 := blk_frozen BK197.out 3; have q67 : ((wrap64 (((rd_T80 t174 x139_5).f0) + ((rd_T80 t174 x139_5).f1))) : Int) ≤ ((t185.length : Int) : Int) := of_decide_eq_true (by first | (with_reducible assumption) | assumption); obtain ⟨i067, hi067, _, hsz67, _⟩ := info_parts info3; have hroom67 : t185.length ≤ co35 := (Kd.R_reads' HO_12.out).2.1; have hC67 : Kd.C (Kd.int .i64) _ Ao35 t185.length t185 := (Kd.R_reads' HO_12.out).2.2; have ql67 : (((rd_T80 t174 x139_5).f0) : Int) ≤ ((wrap64 (((rd_T80 t174 x139_5).f0) + ((rd_T80 t174 x139_5).f1))) : Int) := of_decide_eq_true (by first | (with_reducible assumption) | assumption); have q067 : (0 : Int) ≤ (((rd_T80 t174 x139_5).f0) : Int) := of_decide_eq_true (by first | (with_reducible assumption) | assumption); have hcut67 := cut_mid (P := Try.prog) 29 3 .i64 .i64 Try.underlying29 hi067 1 hsz67 Ao35 t185.length co35 ((rd_T80 t174 x139_5).f0) (wrap64 (((rd_T80 t174 x139_5).f0) + ((rd_T80 t174 x139_5).f1))) q067 ql67 q67 hroom67; have hr67 := Kd.C_mid (lo := (((rd_T80 t174 x139_5).f0) : Int).toNat) (hi := ((wrap64 (((rd_T80 t174 x139_5).f0) + ((rd_T80 t174 x139_5).f1))) : Int).toNat) (c := co35) hC67 (by omega) (by omega) hroom67; obtain ⟨A67, hA67⟩ : ∃ A1, A1 = (if co35 = (((rd_T80 t174 x139_5).f0) : Int).toNat then Ao35 else (Ao35 : Option Addr).map (·.add ((((rd_T80 t174 x139_5).f0) : Int).toNat * 1))) := ⟨_, rfl⟩; obtain ⟨c67, hc67⟩ : ∃ c1, c1 = co35 - (((rd_T80 t174 x139_5).f0) : Int).toNat := ⟨_, rfl⟩; have hy67 : y198.length = ((wrap64 (((rd_T80 t174 x139_5).f0) + ((rd_T80 t174 x139_5).f1))) : Int).toNat - (((rd_T80 t174 x139_5).f0) : Int).toNat := (by rw [Ny198.out, List.length_drop, List.length_take] <;> omega); rw [show ((t185).take ((wrap64 (((rd_T80 t174 x139_5).f0) + ((rd_T80 t174 x139_5).f1))) : Int).toNat).drop (((rd_T80 t174 x139_5).f0) : Int).toNat = y198 from Ny198.out.symm] at hr67; replace hr67 : Kd.C (Kd.int .i64) _ A67 y198.length y198 := (by rw [hA67]; exact hr67); rw [← hy67, ← hA67, ← hc67] at hcut67; have HR201 := Aside0.mk hr67; have HC201 := Aside0.mk (show y198.length ≤ c67 from by rw [hy67, hc67]; exact Nat.sub_le_sub_right (Nat.le_trans (by omega) hroom67) _); clear hr67 hC67 hroom67 hi067 hsz67 hc67; have KY67 := Aside0.mk hy67; have KA67 := Aside0.mk hA67; clear hy67 hA67; have KL67 := Aside0.mk (show ((wrap64 (((rd_T80 t174 x139_5).f0) + ((rd_T80 t174 x139_5).f1))) : Int).toNat ≤ t185.length from by omega); have KM67 := Aside0.mk (show (((rd_T80 t174 x139_5).f0) : Int).toNat ≤ ((wrap64 (((rd_T80 t174 x139_5).f0) + ((rd_T80 t174 x139_5).f1))) : Int).toNat from by omega); replace q67 := eq_true q67)); try go_wp2_with (first | ((with_reducible refine gate_dst (N := 20) rfl ?_); (try (refine gate_guard (by rfl) ?_; dsimp only)); refine box_event ?hg (N := 20) ?hd (cs := #[.int .i64 0, .int .i64 0, .int .i64 0, .int .i64 0]) (t := 80) ?hr ?_; (case hd => rfl); (case hg => rfl); (case hr => first | (go_simp; done) | (go_simp; rfl)); intro gb197 hg w63 hbox hb; have n0_ := Aside0.mk (Kd.R_below (by (with_reducible repeat (first | apply Kd.R_alloc | apply Kd.R_drewN | apply Kd.R_drew)); exact HO_12.out) hb); have n1_ := Aside0.mk (Kd.R_below (Kd.R_elderB (by (with_reducible repeat (first | apply Kd.R_alloc | apply Kd.R_drewN | apply Kd.R_drew)); exact HO_137.out) gb197 (Nat.le_of_eq hg.symm)) hb); have n2_ := Aside0.mk (below_step (by repeat (first | (with_reducible first | exact HB.out | apply below_alloc | apply pw_below_drewN | apply below_drew1) | exact HB.out)) hb); have n3_ := Aside0.mk (hbox); have n4_ := Aside0.mk ((by rw [hg]; exact (below_size (by repeat (first | (with_reducible first | exact HB.out | apply below_alloc | apply pw_below_drewN | apply below_drew1) | exact HB.out))) : w.heap.size ≤ gb197)); have n5_ := Aside0.mk ((by rw [hg]; exact (below_size (by repeat (first | (with_reducible first | exact HB.out | apply below_alloc | apply pw_below_drewN | apply below_drew1) | exact HB.out))) : w.heap.size ≤ gb197)); clear HO_12; clear HO_137; clear HB; have HO_12 := n0_; have HO_137 := n1_; have HB := n2_; have BK197 := n3_; have GW197 := n4_; have GE197 := n5_; clear n0_ n1_ n2_ n3_ n4_ n5_; clear hb hbox hg; have hcz64_0 : w63.cell? ⟨gb197, 0, none⟩ = some (.int .i64 0) := (blk_cell BK197.out 0).trans rfl; have hcz64_1 : w63.cell? ⟨gb197, 1, none⟩ = some (.int .i64 0) := (blk_cell BK197.out 1).trans rfl; have hcz64_2 : w63.cell? ⟨gb197, 2, none⟩ = some (.int .i64 0) := (blk_cell BK197.out 2).trans rfl; have hcz64_3 : w63.cell? ⟨gb197, 3, none⟩ = some (.int .i64 0) := (blk_cell BK197.out 3).trans rfl; have hfz64_0 := blk_frozen BK197.out 0; have hfz64_1 := blk_frozen BK197.out 1; have hfz64_2 := blk_frozen BK197.out 2; have hfz64_3 := blk_frozen BK197.out 3) | ((with_reducible refine gate_store (t := 80) (p := 20) rfl ?_); (try (rw [drewN_self w63]; generalize hq_ : World.drewN w63 _ = w63; have n0_ := Aside0.mk (Kd.R_at hq_ HO_12.out); have n1_ := Aside0.mk (Kd.R_at hq_ HO_137.out); have n2_ := Aside0.mk (blk_at hq_ BK197.out); have n3_ := Aside0.mk (below_at hq_ HB.out); clear hq_ HO_12 HO_137 BK197 HB; have HO_12 := n0_; have HO_137 := n1_; have BK197 := n2_; have HB := n3_; clear n0_ n1_ n2_ n3_)); refine store_event (t := 80) (p := 20) (v := ?vo_w65) (w1 := ((((w63.setCell ⟨gb197, 0, none⟩ (.int .i64 ((rd_T80 t174 x139_5).f0))).setCell ⟨gb197, 1, none⟩ (.int .i64 ((rd_T80 t174 x139_5).f1))).setCell ⟨gb197, 2, none⟩ (.int .i64 ((rd_T80 t174 x139_5).f2))).setCell ⟨gb197, 3, none⟩ (.int .i64 ((rd_T80 t174 x139_5).f3)))) ?hg ?ho ?hn ?hr ?_; (case ho => rfl); (case hg => rfl); (case hn => rfl); (case hr => first | (go_simp; done) | (go_simp; rfl)); intro w65 hw; have n0_ : Aside0 (Kd.R (Kd.int .i64) 3 w65 w.heap.size (fun _ => True) (.slice Ao35 t185.length co35) t185) := ⟨(by rw [hw]; exact (by (with_reducible repeat (first | apply Kd.R_alloc | apply Kd.R_drewN | apply Kd.R_drew)); exact Kd.R_mono (Kd.R_far (p := ⟨gb197, 3, none⟩) (Kd.R_far (p := ⟨gb197, 2, none⟩) (Kd.R_far (p := ⟨gb197, 1, none⟩) (Kd.R_far (p := ⟨gb197, 0, none⟩) (Kd.R_types HO_12.out BK197.out (by decide)) (fun _ hk => hk.2) (.int .i64 ((rd_T80 t174 x139_5).f0))) (fun _ hk => hk.2) (.int .i64 ((rd_T80 t174 x139_5).f1))) (fun _ hk => hk.2) (.int .i64 ((rd_T80 t174 x139_5).f2))) (fun _ hk => hk.2) (.int .i64 ((rd_T80 t174 x139_5).f3))) (fun _ hk => trivial)))⟩; have n1_ : Aside0 (Kd.R k80 80 w65 w.heap.size (fun k_ => k_ ≠ gb197) (.slice (some ad196) t174.length co21) t174) := ⟨(by rw [hw]; exact (by (with_reducible repeat (first | apply Kd.R_alloc | apply Kd.R_drewN | apply Kd.R_drew)); exact Kd.R_mono (Kd.R_far (p := ⟨gb197, 3, none⟩) (Kd.R_far (p := ⟨gb197, 2, none⟩) (Kd.R_far (p := ⟨gb197, 1, none⟩) (Kd.R_far (p := ⟨gb197, 0, none⟩) (Kd.R_mono HO_137.out (fun k_ hk => (⟨hk, hk.2⟩ : _ ∧ k_ ≠ gb197))) (fun _ hk => hk.2) (.int .i64 ((rd_T80 t174 x139_5).f0))) (fun _ hk => hk.2) (.int .i64 ((rd_T80 t174 x139_5).f1))) (fun _ hk => hk.2) (.int .i64 ((rd_T80 t174 x139_5).f2))) (fun _ hk => hk.2) (.int .i64 ((rd_T80 t174 x139_5).f3))) (fun _ hk => hk.1.2)))⟩; have n2_ : Aside0 (w65.heap[gb197]? = some (.cells #[.int .i64 ((rd_T80 t174 x139_5).f0), .int .i64 ((rd_T80 t174 x139_5).f1), .int .i64 ((rd_T80 t174 x139_5).f2), .int .i64 ((rd_T80 t174 x139_5).f3)] 80 (0, 0))) := ⟨(by rw [hw]; exact (by (with_reducible repeat (first | refine blk_drewN ?_ _ | refine blk_drew ?_ | refine blk_alloc ?_ _)); refine blk_put (cs := #[.int .i64 ((rd_T80 t174 x139_5).f0), .int .i64 ((rd_T80 t174 x139_5).f1), .int .i64 ((rd_T80 t174 x139_5).f2), .int .i64 0]) ?_ 3 _ rfl; (with_reducible repeat (first | refine blk_drewN ?_ _ | refine blk_drew ?_ | refine blk_alloc ?_ _)); refine blk_put (cs := #[.int .i64 ((rd_T80 t174 x139_5).f0), .int .i64 ((rd_T80 t174 x139_5).f1), .int .i64 0, .int .i64 0]) ?_ 2 _ rfl; (with_reducible repeat (first | refine blk_drewN ?_ _ | refine blk_drew ?_ | refine blk_alloc ?_ _)); refine blk_put (cs := #[.int .i64 ((rd_T80 t174 x139_5).f0), .int .i64 0, .int .i64 0, .int .i64 0]) ?_ 1 _ rfl; (with_reducible repeat (first | refine blk_drewN ?_ _ | refine blk_drew ?_ | refine blk_alloc ?_ _)); refine blk_put (cs := #[.int .i64 0, .int .i64 0, .int .i64 0, .int .i64 0]) ?_ 0 _ rfl; (with_reducible repeat (first | refine blk_drewN ?_ _ | refine blk_drew ?_ | refine blk_alloc ?_ _)); exact BK197.out))⟩; have n3_ : Aside0 (Below w.heap.size w w65) := ⟨(by rw [hw]; exact (by repeat (first | (with_reducible first | exact HB.out | apply below_alloc | apply pw_below_drewN | apply below_drew1 | refine below_set ?_ GE197.out) | exact HB.out)))⟩; clear hw; clear HO_12; clear HO_137; clear BK197; clear HB; have HO_12 := n0_; have HO_137 := n1_; have BK197 := n2_; have HB := n3_; clear n0_ n1_ n2_ n3_; have hcz66_0 : w65.cell? ⟨gb197, 0, none⟩ = some (.int .i64 ((rd_T80 t174 x139_5).f0)) := (blk_cell BK197.out 0).trans rfl; have hcz66_1 : w65.cell? ⟨gb197, 1, none⟩ = some (.int .i64 ((rd_T80 t174 x139_5).f1)) := (blk_cell BK197.out 1).trans rfl; have hcz66_2 : w65.cell? ⟨gb197, 2, none⟩ = some (.int .i64 ((rd_T80 t174 x139_5).f2)) := (blk_cell BK197.out 2).trans rfl; have hcz66_3 : w65.cell? ⟨gb197, 3, none⟩ = some (.int .i64 ((rd_T80 t174 x139_5).f3)) := (blk_cell BK197.out 3).trans rfl; have hfz66_0 := blk_frozen BK197.out 0; have hfz66_1 := blk_frozen BK197.out 1; have hfz66_2 := blk_frozen BK197.out 2; have hfz66_3 := blk_frozen BK197.out 3; have q67 : ((wrap64 (((rd_T80 t174 x139_5).f0) + ((rd_T80 t174 x139_5).f1))) : Int) ≤ ((t185.length : Int) : Int) := of_decide_eq_true (by first | (with_reducible assumption) | assumption); obtain ⟨i067, hi067, _, hsz67, _⟩ := info_parts info3; have hroom67 : t185.length ≤ co35 := (Kd.R_reads' HO_12.out).2.1; have hC67 : Kd.C (Kd.int .i64) _ Ao35 t185.length t185 := (Kd.R_reads' HO_12.out).2.2; have ql67 : (((rd_T80 t174 x139_5).f0) : Int) ≤ ((wrap64 (((rd_T80 t174 x139_5).f0) + ((rd_T80 t174 x139_5).f1))) : Int) := of_decide_eq_true (by first | (with_reducible assumption) | assumption); have q067 : (0 : Int) ≤ (((rd_T80 t174 x139_5).f0) : Int) := of_decide_eq_true (by first | (with_reducible assumption) | assumption); have hcut67 := cut_mid (P := Try.prog) 29 3 .i64 .i64 Try.underlying29 hi067 1 hsz67 Ao35 t185.length co35 ((rd_T80 t174 x139_5).f0) (wrap64 (((rd_T80 t174 x139_5).f0) + ((rd_T80 t174 x139_5).f1))) q067 ql67 q67 hroom67; have hr67 := Kd.C_mid (lo := (((rd_T80 t174 x139_5).f0) : Int).toNat) (hi := ((wrap64 (((rd_T80 t174 x139_5).f0) + ((rd_T80 t174 x139_5).f1))) : Int).toNat) (c := co35) hC67 (by omega) (by omega) hroom67; obtain ⟨A67, hA67⟩ : ∃ A1, A1 = (if co35 = (((rd_T80 t174 x139_5).f0) : Int).toNat then Ao35 else (Ao35 : Option Addr).map (·.add ((((rd_T80 t174 x139_5).f0) : Int).toNat * 1))) := ⟨_, rfl⟩; obtain ⟨c67, hc67⟩ : ∃ c1, c1 = co35 - (((rd_T80 t174 x139_5).f0) : Int).toNat := ⟨_, rfl⟩; have hy67 : y198.length = ((wrap64 (((rd_T80 t174 x139_5).f0) + ((rd_T80 t174 x139_5).f1))) : Int).toNat - (((rd_T80 t174 x139_5).f0) : Int).toNat := (by rw [Ny198.out, List.length_drop, List.length_take] <;> omega); rw [show ((t185).take ((wrap64 (((rd_T80 t174 x139_5).f0) + ((rd_T80 t174 x139_5).f1))) : Int).toNat).drop (((rd_T80 t174 x139_5).f0) : Int).toNat = y198 from Ny198.out.symm] at hr67; replace hr67 : Kd.C (Kd.int .i64) _ A67 y198.length y198 := (by rw [hA67]; exact hr67); rw [← hy67, ← hA67, ← hc67] at hcut67; have HR201 := Aside0.mk hr67; have HC201 := Aside0.mk (show y198.length ≤ c67 from by rw [hy67, hc67]; exact Nat.sub_le_sub_right (Nat.le_trans (by omega) hroom67) _); clear hr67 hC67 hroom67 hi067 hsz67 hc67; have KY67 := Aside0.mk hy67; have KA67 := Aside0.mk hA67; clear hy67 hA67; have KL67 := Aside0.mk (show ((wrap64 (((rd_T80 t174 x139_5).f0) + ((rd_T80 t174 x139_5).f1))) : Int).toNat ≤ t185.length from by omega); have KM67 := Aside0.mk (show (((rd_T80 t174 x139_5).f0) : Int).toNat ≤ ((wrap64 (((rd_T80 t174 x139_5).f0) + ((rd_T80 t174 x139_5).f1))) : Int).toNat from by omega); replace q67 := eq_true q67)))
                     go_loopg [21, 153] k5 (fun kq v21 v153 w' => ∃ (x21_6 : Int) (x153_6 : Int), v21 = .int .i64 x21_6 ∧ v153 = .int .i64 x153_6 ∧ Aside0 (ck_BalanceAddsUp.l3 kq t177 t185 x14_3 x15_3 x16_3 x21_6 t174 (t174.length : Int) x139_5 y198 (y198.length : Int) x153_6 ((rd_T80 t174 x139_5).f0) ((rd_T80 t174 x139_5).f1) ((rd_T80 t174 x139_5).f2) ((rd_T80 t174 x139_5).f3) = some r) ∧ Aside0 (kq ≤ k5) ∧ Aside0 (Kd.R (Kd.int .i64) 3 w' w.heap.size (fun _ => True) (.slice Ao35 t185.length co35) t185) ∧ Aside0 (Kd.R k80 80 w' w.heap.size (fun k_ => k_ ≠ gb197) (.slice (some ad196) t174.length co21) t174) ∧ Aside0 (w'.heap[gb197]? = some (.cells #[.int .i64 ((rd_T80 t174 x139_5).f0), .int .i64 ((rd_T80 t174 x139_5).f1), .int .i64 ((rd_T80 t174 x139_5).f2), .int .i64 ((rd_T80 t174 x139_5).f3)] 80 (0, 0))) ∧ Aside0 (Kd.C (Kd.int .i64) w' A67 y198.length y198) ∧ Aside0 (Below w.heap.size w w'))
                     case atStart => exact ⟨(0), (0), (by first | rfl | (simp; done) | (simp [*]; done)), (by first | rfl | (simp; done) | (simp [*]; done)), H', ⟨Nat.le_refl _⟩, ⟨by (with_reducible repeat (first | apply Kd.R_alloc | apply Kd.R_drewN | apply Kd.R_drew)); exact HO_12.out⟩, ⟨by (with_reducible repeat (first | apply Kd.R_alloc | apply Kd.R_drewN | apply Kd.R_drew)); exact HO_137.out⟩, ⟨by (with_reducible repeat (first | refine blk_drewN ?_ _ | refine blk_drew ?_ | refine blk_alloc ?_ _)); exact BK197.out⟩, ⟨by repeat (first | (with_reducible exact HR201.out) | (with_reducible refine Kd.C_alloc ?_ _) | (with_reducible refine Kd.C_drewN ?_ _) | (with_reducible refine Kd.C_drew ?_) | exact HR201.out)⟩, ⟨by repeat (first | (with_reducible first | exact HB.out | apply below_alloc | apply pw_below_drewN | apply below_drew1 | refine below_set ?_ GE197.out) | exact HB.out)⟩⟩
                     case round =>
                      clear H'
                      try clear c1
                      try clear p1
                      try clear q1
                      try clear hx1
                      try clear c2
                      try clear p2
                      try clear c3
                      try clear c4
                      try clear c5
                      try clear c6
                      try clear p6
                      try clear q6
                      try clear c7
                      try clear c7b0
                      try clear c7b1
                      try clear c8
                      try clear c13
                      try clear p18
                      try clear q18
                      try clear hx18
                      try clear p19
                      try clear q19
                      try clear hx19
                      try clear c24
                      try clear c24b0
                      try clear c24b1
                      try clear c25
                      try clear c25b0
                      try clear c25b1
                      try clear c26
                      try clear c26b0
                      try clear c26b1
                      try clear c27
                      try clear c27b0
                      try clear c27b1
                      try clear c34
                      try clear c36
                      try clear c36b0
                      try clear c37
                      try clear c37b0
                      try clear c38
                      try clear c38b0
                      try clear c39
                      try clear c39b0
                      try clear c40
                      try clear c40b0
                      try clear c43
                      try clear c43b0
                      try clear c44
                      try clear c44b0
                      try clear c45
                      try clear c45b0
                      try clear c46
                      try clear c46b0
                      try clear c47
                      try clear c47b0
                      try clear c49
                      try clear c49b0
                      try clear c50
                      try clear c50b0
                      try clear c51
                      try clear c51b0
                      try clear c57
                      try clear c57b0
                      try clear c58
                      try clear c58b0
                      try clear c59
                      try clear c59b0
                      try clear c60
                      try clear c60b0
                      try clear c60b1
                      try clear c61
                      try clear c61b0
                      try clear c61b1
                      try clear c62
                      try clear c62b0
                      try clear c62b1
                      try clear p64
                      try clear c67
                      try clear q67
                      try clear hcz64_0
                      try clear hcz64_1
                      try clear hcz64_2
                      try clear hcz64_3
                      try clear hcz66_0
                      try clear hcz66_1
                      try clear hcz66_2
                      try clear hcz66_3
                      try clear hfz64_0
                      try clear hfz64_1
                      try clear hfz64_2
                      try clear hfz64_3
                      try clear hfz66_0
                      try clear hfz66_1
                      try clear hfz66_2
                      try clear hfz66_3
                      try clear hx189_0
                      try clear hx190_0
                      try clear hx191_0
                      try clear hx192_0
                      try clear hx193_0
                      try clear hx194_0
                      try clear hx195_0
                      try clear hx196_0
                      try clear hx196_1
                      try clear hx196_2
                      try clear hx196_3
                      try clear p1
                      try clear p18
                      try clear p189
                      try clear p19
                      try clear p190
                      try clear p191
                      try clear p192
                      try clear p193
                      try clear p194
                      try clear p195
                      try clear p196
                      try clear p2
                      try clear p6
                      try clear q067
                      try clear q1
                      try clear q18
                      try clear q189
                      try clear q19
                      try clear q190
                      try clear q191
                      try clear q192
                      try clear q193
                      try clear q194
                      try clear q195
                      try clear q196
                      try clear q67
                      obtain ⟨x21_6, x153_6, rfl, rfl, HA, HK6, HO_12, HO_137, BK197, HR201, HB⟩ := hrel
                      cases gk with
                      | zero => exact absurd HA.out (by simp [ck_BalanceAddsUp.l3])
                      | succ k6 =>
                       have H := HA.out
                       clear HA
                       simp only [ck_BalanceAddsUp.l3] at H
                       by_cases c68 : x153_6 < (y198.length : Int)
                       ·rw [if_pos c68] at H
                        have c68b0 : decide (x153_6 < (y198.length : Int)) = true := decide_eq_true c68
                        clear c68
                        by_cases c69 : 0 ≤ x153_6
                        ·rw [if_pos c69] at H
                         have c69b0 : decide (0 ≤ x153_6) = true := decide_eq_true c69
                         clear c69
                         by_cases c70 : x153_6 < (y198.length : Int)
                         ·rw [if_pos c70] at H
                          have c70b0 : decide (x153_6 < (y198.length : Int)) = true := decide_eq_true c70
                          clear c70
                          have H' := Aside0.mk H
                          clear H
                          have p202 : 0 ≤ (x153_6 : Int) := of_decide_eq_true (by first | (with_reducible assumption) | assumption)
                          have q202 : x153_6 < (y198.length : Int) := of_decide_eq_true (by first | (with_reducible assumption) | assumption)
                          obtain ⟨ad202, e202, hx202_0⟩ := Kd.at_int (by repeat (first | (with_reducible exact HR201.out) | (with_reducible refine Kd.C_alloc ?_ _) | (with_reducible refine Kd.C_drewN ?_ _) | (with_reducible refine Kd.C_drew ?_) | exact HR201.out)) x153_6 p202 q202
                          cases e202
                          replace p202 := eq_true p202
                          replace q202 := eq_true q202
                          go_wp2
                          repeat (go_quiet (fail); try go_wp2)
                          go_roundg k6
                          case measure => have := HJ4.out; have := HJ18.out; have := HK3.out; have := HK4.out; have := HK5.out; have := HK6.out; omega
                          case rel => exact ⟨(wrap64 (x21_6 + (rd y198 x153_6))), (wrap64 (x153_6 + 1)), (by first | rfl | (simp; done) | (simp [*]; done)), (by first | rfl | (simp; done) | (simp [*]; done)), H', ⟨by have := HJ4.out; have := HJ18.out; have := HK3.out; have := HK4.out; have := HK5.out; have := HK6.out; omega⟩, ⟨by (with_reducible repeat (first | apply Kd.R_alloc | apply Kd.R_drewN | apply Kd.R_drew)); exact HO_12.out⟩, ⟨by (with_reducible repeat (first | apply Kd.R_alloc | apply Kd.R_drewN | apply Kd.R_drew)); exact HO_137.out⟩, ⟨by (with_reducible repeat (first | refine blk_drewN ?_ _ | refine blk_drew ?_ | refine blk_alloc ?_ _)); exact BK197.out⟩, ⟨by repeat (first | (with_reducible exact HR201.out) | (with_reducible refine Kd.C_alloc ?_ _) | (with_reducible refine Kd.C_drewN ?_ _) | (with_reducible refine Kd.C_drew ?_) | exact HR201.out)⟩, ⟨by repeat (first | (with_reducible first | exact HB.out | apply below_alloc | apply pw_below_drewN | apply below_drew1 | refine below_set ?_ GE197.out) | exact HB.out)⟩⟩
                         ·rw [if_neg c70] at H
                          exact absurd H (by simp)
                        ·rw [if_neg c69] at H
                         exact absurd H (by simp)
                       ·rw [if_neg c68] at H
                        have c68b0 : decide (x153_6 < (y198.length : Int)) = false := decide_eq_false c68
                        clear c68
                        by_cases c71 : x21_6 < ((rd_T80 t174 x139_5).f2)
                        ·rw [if_pos c71] at H
                         have c71b0 : decide (x21_6 < ((rd_T80 t174 x139_5).f2)) = true := decide_eq_true c71
                         clear c71
                         obtain rfl := Option.some.inj H
                         have hcz72_0 : wr.cell? ⟨gb197, 0, none⟩ = some (.int .i64 ((rd_T80 t174 x139_5).f0)) := (blk_cell BK197.out 0).trans rfl
                         have hcz72_1 : wr.cell? ⟨gb197, 1, none⟩ = some (.int .i64 ((rd_T80 t174 x139_5).f1)) := (blk_cell BK197.out 1).trans rfl
                         have hcz72_2 : wr.cell? ⟨gb197, 2, none⟩ = some (.int .i64 ((rd_T80 t174 x139_5).f2)) := (blk_cell BK197.out 2).trans rfl
                         have hcz72_3 : wr.cell? ⟨gb197, 3, none⟩ = some (.int .i64 ((rd_T80 t174 x139_5).f3)) := (blk_cell BK197.out 3).trans rfl
                         have hfz72_0 := blk_frozen BK197.out 0
                         have hfz72_1 := blk_frozen BK197.out 1
                         have hfz72_2 := blk_frozen BK197.out 2
                         have hfz72_3 := blk_frozen BK197.out 3
                         go_wp2
                         repeat (go_quiet (fail); try go_wp2)
                         go_ret
                         exact ⟨by first | rfl | (simp [errW_none, errW_some] <;> rfl) | (simp [*, errW_none, errW_some] <;> rfl), by repeat (first | (with_reducible first | exact HB.out | apply below_alloc | apply pw_below_drewN | apply below_drew1 | refine below_set ?_ GE197.out) | exact HB.out)⟩
                        ·rw [if_neg c71] at H
                         have c71b0 : decide (x21_6 < ((rd_T80 t174 x139_5).f2)) = false := decide_eq_false c71
                         clear c71
                         have H' := Aside0.mk H
                         clear H
                         have hcz73_0 : wr.cell? ⟨gb197, 0, none⟩ = some (.int .i64 ((rd_T80 t174 x139_5).f0)) := (blk_cell BK197.out 0).trans rfl
                         have hcz73_1 : wr.cell? ⟨gb197, 1, none⟩ = some (.int .i64 ((rd_T80 t174 x139_5).f1)) := (blk_cell BK197.out 1).trans rfl
                         have hcz73_2 : wr.cell? ⟨gb197, 2, none⟩ = some (.int .i64 ((rd_T80 t174 x139_5).f2)) := (blk_cell BK197.out 2).trans rfl
                         have hcz73_3 : wr.cell? ⟨gb197, 3, none⟩ = some (.int .i64 ((rd_T80 t174 x139_5).f3)) := (blk_cell BK197.out 3).trans rfl
                         have hfz73_0 := blk_frozen BK197.out 0
                         have hfz73_1 := blk_frozen BK197.out 1
                         have hfz73_2 := blk_frozen BK197.out 2
                         have hfz73_3 := blk_frozen BK197.out 3
                         go_wp2
                         repeat (go_quiet (fail); try go_wp2)
                         go_roundg k6
                         case measure => have := HJ4.out; have := HJ18.out; have := HK3.out; have := HK4.out; have := HK5.out; have := HK6.out; omega
                         case rel => exact ⟨(wrap64 (x139_5 + 1)), (by first | rfl | (simp; done) | (simp [*]; done)), H', ⟨by have := HJ4.out; have := HJ18.out; have := HK3.out; have := HK4.out; have := HK5.out; have := HK6.out; omega⟩, ⟨by (with_reducible repeat (first | apply Kd.R_alloc | apply Kd.R_drewN | apply Kd.R_drew)); exact HO_12.out⟩, ⟨by (with_reducible repeat (first | apply Kd.R_alloc | apply Kd.R_drewN | apply Kd.R_drew)); exact Kd.R_mono HO_137.out (fun _ hk => trivial)⟩, ⟨by repeat (first | (with_reducible first | exact HB.out | apply below_alloc | apply pw_below_drewN | apply below_drew1 | refine below_set ?_ GE197.out) | exact HB.out)⟩⟩
                    ·rw [if_neg c62] at H
                     exact absurd H (by simp)
                   ·rw [if_neg c61] at H
                    exact absurd H (by simp)
                  ·rw [if_neg c60] at H
                   exact absurd H (by simp)
                 ·rw [if_neg c59] at H
                  exact absurd H (by simp)
                ·rw [if_neg c58] at H
                 exact absurd H (by simp)
               ·rw [if_neg c57] at H
                have c57b0 : decide (x139_5 < (t174.length : Int)) = false := decide_eq_false c57
                clear c57
                obtain ⟨ji74, hji74⟩ : ∃ j_ : Int, (mx t177 x14_3) = j_ := ⟨_, rfl⟩
                replace H : (if t177 = 0 then (some (x16_3 == x15_3)) else (some (x16_3 == (ji74)))) = some r := by first | (rw [hji74] at H; exact H) | (simp only [hji74] at H ⊢; exact H)
                have hji74_ : (if t177 < x14_3 then x14_3 else t177) = ji74 := hji74
                by_cases c75 : t177 = 0
                ·rw [if_pos c75] at H
                 have c75b0 : (t177 == 0) = true := beq_iff_eq.mpr c75
                 have c75b1 : (t177 != 0) = false := bne_eq_false_iff_eq.mpr c75
                 clear c75
                 obtain rfl := Option.some.inj H
                 go_wp2
                 repeat (go_quiet (fail); try go_wp2)
                 go_ret
                 exact ⟨by first | rfl | (simp [errW_none, errW_some] <;> rfl) | (simp only [← hji74]; first | rfl | (simp [errW_none, errW_some] <;> rfl)) | (simp [*, errW_none, errW_some] <;> rfl), by repeat (first | (with_reducible first | exact HB.out | apply below_alloc | apply pw_below_drewN | apply below_drew1) | exact HB.out)⟩
                ·rw [if_neg c75] at H
                 have c75b0 : (t177 == 0) = false := beq_eq_false_iff_ne.mpr c75
                 have c75b1 : (t177 != 0) = true := bne_iff_ne.mpr c75
                 obtain rfl := Option.some.inj H
                 go_wp2
                 repeat (go_quiet (fail); try go_wp2)
                 go_ret
                 exact ⟨by first | rfl | (simp [errW_none, errW_some] <;> rfl) | (simp only [← hji74]; first | rfl | (simp [errW_none, errW_some] <;> rfl)) | (simp [*, errW_none, errW_some] <;> rfl), by repeat (first | (with_reducible first | exact HB.out | apply below_alloc | apply pw_below_drewN | apply below_drew1) | exact HB.out)⟩

end Go.Proofs.Ytohaoaiffneamaa.QBalance
