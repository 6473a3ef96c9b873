/- ShapeGroupStays holds of the given program: at every input it returns true, and each argument reads as before. No condition beyond the row's own. -/
import Derived.Test.YtgipgiejdbhpkaaDoorCards
import Derived.Test.YtgipgiejdbhpkaaDoorTie
import Derived.Lay
import Derived.SevenTiedAt
import Derived.Test.YtgipgiejdbhpkaaDoorRows
import Derived.Test.YtgipgiejdbhpkaaDoorQEvGSx0
import Derived.Test.YtgipgiejdbhpkaaDoorTypShapeGroupStays
import Derived.Test.YtgipgiejdbhpkaaDoorPureShapeGroupStays
import Derived.WalkKit
import Derived.ProofKit
import Derived.OpenShut
import Derived.ShutString
import Derived.ChangeOld
import Derived.Below
import Derived.SizedLaws
import Derived.Carry
namespace Go.Proofs.YtgipgiejdbhpkaaDoor.shapeGroupStays
open Go.ChangeShapes Go.WideShapes Go.ChangeAt Go.RowKit Go.Proofs.YtgipgiejdbhpkaaDoor.Open Go.Proofs.YtgipgiejdbhpkaaDoor.Laid Go.Proofs.YtgipgiejdbhpkaaDoor.Pure Go.Proofs.YtgipgiejdbhpkaaDoor.QEvGS Go.Proofs.YtgipgiejdbhpkaaDoorW.PrintWords
open Go.ChangeMaps (open_string shut_string)
set_option linter.unusedVariables false
theorem own : ownKnob Tryd.prog.godebug = none := by kernel_rfl
theorem laidOut : laidOutB Tryd.prog = true := by kernel_rfl
set_option maxRecDepth 100000 in
theorem lifted (os : Os) (started : os.Started) (H : Type) (enc : TypeId × Value → H) :
    ReturnsInHanded {} Tryd.checked os 5 .any (fun w args => (Rows.shapeGroupStaysSpec.pre enc Tryd.prog Tryd.f5 Rows.shapeGroupStaysRow.domain false w args ∧ laidMetH Tryd.prog Rows.shapeGroupStaysRow.laid w) ∧ sizedMet enc Tryd.prog Tryd.f5 (OpenSpec.ofChange Rows.shapeGroupStaysSpec) false w args) (Rows.shapeGroupStaysSpec.post enc Tryd.prog Tryd.f5 false true false false) := by
  refine returnsInHanded_of_change_and (C := Tryd.checked) (X := fun w _ => laidMetH Tryd.prog Rows.shapeGroupStaysRow.laid w) (fun _ _ _ hh h => h.of_heap hh) own started (by kernel_rfl) Tryd.func5
    (ChangeSpec.witness_shaped (enc := enc) (C := Tryd.checked) (os := os) (X := fun w _ => laidMetH Tryd.prog Rows.shapeGroupStaysRow.laid w) false (World.laidAll Tryd.prog os Rows.shapeGroupStaysRow.laid) #[.slice none 0 0, .slice none 0 0] 8 (World.laidAll_os _ _ _)
      (World.shaped_of_ZipB (by kernel_rfl) (by kernel_rfl)) (by kernel_rfl) (by kernel_rfl) (by kernel_rfl)
      (by rw [MakeChecks.laidMetH_plain _ _ _ (by kernel_rfl)]; exact laidMet_laidAll _ (by kernel_rfl) (by kernel_rfl))) ?_
  intro W base args ds gs before hval0 hW hcnd hsz0 hL0 _
  have hsz : (DataW.weightsEach Tryd.prog (Tryd.f5.params.toList ++ Rows.shapeGroupStaysSpec.plain.varTypes Tryd.prog) (ds ++ gs)).all (· ≤ reachBytes) = true := hsz0
  have hval : ∀ (j : Nat) t v, Tryd.f5.params[j]? = some t → args[j]? = some v → Value.okWide Tryd.prog W .any base t v := hval0
  have hW' := hW
  obtain ⟨p, q, hA0, hV, rfl, hfz, hnd⟩ := hW
  have hA : DataW.TrodAll enc Tryd.prog W 0 (fun _ => true) true Tryd.f5.params.toList args.toList ds p := hA0
  rw [Tryd.params5] at hA hval hsz
  obtain ⟨v0, vs0, d0, ds0, p0, q0, hargs, rfl, rfl, h0, r0⟩ := trodAll_cons hA
  obtain ⟨v1, vs1, d1, ds1, p1, q1, rfl, rfl, rfl, h1, r1⟩ := trodAll_cons r0
  obtain ⟨rfl, rfl, rfl⟩ := trodAll_nil r1
  obtain rfl : args = #[v0, v1] := by cases args; simp_all
  obtain ⟨rfl, rfl⟩ := trodVars_none hV
  have hL1 : laidMetH Tryd.prog Rows.shapeGroupStaysRow.laid W := hL0
  rw [MakeChecks.laidMetH_plain _ _ _ (by kernel_rfl)] at hL1
  obtain ⟨ps_, hLv0, _, _⟩ := hL1
  obtain ⟨g0_, t0_, cs0_, fu0_, pp0_, qq0_, ea0_, eb0_, ec0_, ed0_, hLv1⟩ := laid_cons hLv0
  obtain rfl := Option.some.inj ((show Tryd.prog.globalNamed "chancery/shape.quarter" = some 0 by kernel_rfl).symm.trans ea0_)
  obtain rfl := Option.some.inj ((show (Tryd.prog.globals[0]?).map (·.type) = some 72 by kernel_rfl).symm.trans eb0_)
  have hg0 := ghost_array tab0 Tryd.underlying72 (by unfold maxLen; omega) (by kernel_rfl) (tells_int Tryd.underlying3) (by intro a b h; injection h with h; injection h) ea0_ ec0_ ed0_ rfl
  have kk0 := h0
  have lt0 := arg_lt kk0
  obtain ⟨l0, A0, c0, rfl, hc0, hr0, w0⟩ := arg_slice Tryd.underlying22 op22 (hval 0 22 v0 rfl rfl) h0
  have kk1 := h1
  have lt1 := arg_lt kk1
  obtain ⟨l1, A1, c1, rfl, hc1, hr1, w1⟩ := arg_slice Tryd.underlying37 op37 (hval 1 37 v1 rfl rfl) h1
  clear hA0 hval0 hsz0 hsz
  have hpure := Pure.ShapeGroupStays l0 l1 w0 w1
  refine (QEvGS.ck_ShapeGroupStays.calls _ _ l0 _ _ l1 _ tab0 true W hr0 hc0 hr1 hc1 hg0 (Nat.le_refl _) hpure).mono fun e W' ⟨he, bel0⟩ => ?_
  have bel : Below W.heap.size W W' := bel0
  subst he
  exact ⟨_, rfl, _, _, _, [], _, [], hW', trodAll_mk1 (shut_bool Tryd.underlying4 _), (trodAll_cons_mk (Below.trod laidOut (by kernel_rfl) (of_decide_eq_true (by kernel_rfl)) kk0 bel lt0) (trodAll_cons_mk (Below.trod laidOut (by kernel_rfl) (of_decide_eq_true (by kernel_rfl)) kk1 bel lt1) trodAll_mk0)), rfl, bel.frame _, fun h => by cases h⟩
theorem over : Rows.shapeGroupStaysRow.holds Tryd.pinned (OpenSpec.ofChange Rows.shapeGroupStaysSpec) :=
  OpenClaim.holds_of_wide 5 Tryd.f5 rfl rfl rfl rfl rfl rfl rfl ⟨rfl, rfl, rfl, rfl, rfl⟩ rfl rfl rfl rfl rfl (by kernel_rfl) Tryd.func5 (by kernel_rfl)
    (of_decide_eq_true (by kernel_rfl)) (by unfold Func.isWrapper; first | (rw [if_pos (by decide +kernel)]; kernel_rfl) | (rw [if_neg (by decide +kernel)]; exact ⟨rfl, rfl⟩))
    (fun os started H enc _ => lifted os started H enc)
theorem card : Rows.ShapeGroupStaysCardSaid :=
  Claim7.holds_tied_plain_at .later [] [.data] true (true, "0c89232074cb5935d2918f1bdc424f47613d0f4c45ca9ca45e1d4588ef6ec385") false over (fun _ h => by cases h) (by kernel_rfl) (fun _ h => by cases h) shapeGroupStays_row_tie rfl ⟨rfl, rfl⟩ (by kernel_rfl) rfl
    (fun f fn hf hfn => by
      obtain rfl : f = 5 := Option.some.inj ((show Tryd.prog.funcNamed "chancery/chancerykeep3.ShapeGroupStays" = some 5 by kernel_rfl).symm.trans hf) |>.symm
      obtain rfl : fn = Tryd.f5 := (Option.some.inj (Tryd.func5.symm.trans hfn)).symm
      exact ⟨by kernel_rfl, fun j t ht => by
        rw [Tryd.params5] at ht
        have hm : t ∈ [22, 37] := by simpa using Array.mem_of_getElem? ht
        have hall : ([22, 37].all fun u => !Tryd.prog.wantsStandIn u) = true := by kernel_rfl
        exact (show Tryd.prog.wantsStandIn t = false by simpa using List.all_eq_true.1 hall t hm)⟩)
    (by kernel_rfl)
theorem proved : Rows.ShapeGroupStaysCardSaid := card
end Go.Proofs.YtgipgiejdbhpkaaDoor.shapeGroupStays
namespace Go.Proofs.YtgipgiejdbhpkaaDoor
theorem shapeGroupStays_holds : Rows.ShapeGroupStaysCardSaid := shapeGroupStays.proved
#print axioms shapeGroupStays_holds
end Go.Proofs.YtgipgiejdbhpkaaDoor
