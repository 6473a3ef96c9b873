/- ShapeQuarterTurns holds of the given program: at every input it returns true, and each argument reads as before. No condition beyond the row's own. -/
import Derived.Test.YtfemkfodakfcmaaDoorCards
import Derived.Test.YtfemkfodakfcmaaDoorTie
import Derived.Lay
import Derived.SevenTiedAt
import Derived.Test.YtfemkfodakfcmaaDoorRows
import Derived.Test.YtfemkfodakfcmaaDoorQEvQTx0
import Derived.Test.YtfemkfodakfcmaaDoorTypShapeQuarterTurns
import Derived.Test.YtfemkfodakfcmaaDoorPureShapeQuarterTurns
import Derived.WalkKit
import Derived.ProofKit
import Derived.OpenShut
import Derived.ShutString
import Derived.ChangeOld
import Derived.Below
import Derived.SizedLaws
import Derived.Carry
namespace Go.Proofs.YtfemkfodakfcmaaDoor.shapeQuarterTurns
open Go.ChangeShapes Go.WideShapes Go.ChangeAt Go.RowKit Go.Proofs.YtfemkfodakfcmaaDoor.Open Go.Proofs.YtfemkfodakfcmaaDoor.Laid Go.Proofs.YtfemkfodakfcmaaDoor.Pure Go.Proofs.YtfemkfodakfcmaaDoor.QEvQT Go.Proofs.YtfemkfodakfcmaaDoorW.PrintWords
open Go.ChangeMaps (open_string shut_string)
set_option linter.unusedVariables false
theorem own : ownKnob Tryd.prog.godebug = none := by kernel_rfl
theorem laidOut : laidOutB Tryd.prog = true := by kernel_rfl
set_option maxRecDepth 100000 in
theorem lifted (os : Os) (started : os.Started) (H : Type) (enc : TypeId × Value → H) :
    ReturnsInHanded {} Tryd.checked os 4 .any (fun w args => (Rows.shapeQuarterTurnsSpec.pre enc Tryd.prog Tryd.f4 Rows.shapeQuarterTurnsRow.domain false w args ∧ laidMetH Tryd.prog Rows.shapeQuarterTurnsRow.laid w) ∧ sizedMet enc Tryd.prog Tryd.f4 (OpenSpec.ofChange Rows.shapeQuarterTurnsSpec) false w args) (Rows.shapeQuarterTurnsSpec.post enc Tryd.prog Tryd.f4 false true false false) := by
  refine returnsInHanded_of_change_and (C := Tryd.checked) (X := fun w _ => laidMetH Tryd.prog Rows.shapeQuarterTurnsRow.laid w) (fun _ _ _ hh h => h.of_heap hh) own started (by kernel_rfl) Tryd.func4
    (ChangeSpec.witness_shaped (enc := enc) (C := Tryd.checked) (os := os) (X := fun w _ => laidMetH Tryd.prog Rows.shapeQuarterTurnsRow.laid w) false (World.laidAll Tryd.prog os Rows.shapeQuarterTurnsRow.laid) #[.slice none 0 0, .int .i64 0] 8 (World.laidAll_os _ _ _)
      (World.shaped_of_ZipB (by kernel_rfl) (by kernel_rfl)) (by kernel_rfl) (by kernel_rfl) (by kernel_rfl)
      (by rw [MakeChecks.laidMetH_plain _ _ _ (by kernel_rfl)]; exact laidMet_laidAll _ (by kernel_rfl) (by kernel_rfl))) ?_
  intro W base args ds gs before hval0 hW hcnd hsz0 hL0 _
  have hsz : (DataW.weightsEach Tryd.prog (Tryd.f4.params.toList ++ Rows.shapeQuarterTurnsSpec.plain.varTypes Tryd.prog) (ds ++ gs)).all (· ≤ reachBytes) = true := hsz0
  have hval : ∀ (j : Nat) t v, Tryd.f4.params[j]? = some t → args[j]? = some v → Value.okWide Tryd.prog W .any base t v := hval0
  have hW' := hW
  obtain ⟨p, q, hA0, hV, rfl, hfz, hnd⟩ := hW
  have hA : DataW.TrodAll enc Tryd.prog W 0 (fun _ => true) true Tryd.f4.params.toList args.toList ds p := hA0
  rw [Tryd.params4] at hA hval hsz
  obtain ⟨v0, vs0, d0, ds0, p0, q0, hargs, rfl, rfl, h0, r0⟩ := trodAll_cons hA
  obtain ⟨v1, vs1, d1, ds1, p1, q1, rfl, rfl, rfl, h1, r1⟩ := trodAll_cons r0
  obtain ⟨rfl, rfl, rfl⟩ := trodAll_nil r1
  obtain rfl : args = #[v0, v1] := by cases args; simp_all
  obtain ⟨rfl, rfl⟩ := trodVars_none hV
  have hL1 : laidMetH Tryd.prog Rows.shapeQuarterTurnsRow.laid W := hL0
  rw [MakeChecks.laidMetH_plain _ _ _ (by kernel_rfl)] at hL1
  obtain ⟨ps_, hLv0, _, _⟩ := hL1
  obtain ⟨g0_, t0_, cs0_, fu0_, pp0_, qq0_, ea0_, eb0_, ec0_, ed0_, hLv1⟩ := laid_cons hLv0
  obtain rfl := Option.some.inj ((show Tryd.prog.globalNamed "chancery/shape.quarter" = some 2 by kernel_rfl).symm.trans ea0_)
  obtain rfl := Option.some.inj ((show (Tryd.prog.globals[2]?).map (·.type) = some 80 by kernel_rfl).symm.trans eb0_)
  have hg2 := ghost_array tab2 Tryd.underlying80 (by unfold maxLen; omega) (by kernel_rfl) (tells_int Tryd.underlying3) (by intro a b h; injection h with h; injection h) ea0_ ec0_ ed0_ rfl
  have kk0 := h0
  have lt0 := arg_lt kk0
  obtain ⟨l0, A0, c0, rfl, hc0, hr0, w0⟩ := arg_slice Tryd.underlying33 op33 (hval 0 33 v0 rfl rfl) h0
  obtain ⟨a1, rfl, rfl, rfl, w1⟩ := open_int Tryd.underlying3 (hval 1 3 v1 rfl rfl) h1
  clear hA0 hval0 hsz0 hsz
  have hpure := Pure.ShapeQuarterTurns l0 a1 w0 w1
  refine (QEvQT.ck_ShapeQuarterTurns.calls _ _ l0 a1 _ tab2 true W hr0 hc0 hg2 (Nat.le_refl _) hpure).mono fun e W' ⟨he, bel0⟩ => ?_
  have bel : Below W.heap.size W W' := bel0
  subst he
  exact ⟨_, rfl, _, _, _, [], _, [], hW', trodAll_mk1 (shut_bool Tryd.underlying4 _), (trodAll_cons_mk (Below.trod laidOut (by kernel_rfl) (of_decide_eq_true (by kernel_rfl)) kk0 bel lt0) (trodAll_cons_mk (shut_int Tryd.underlying3 w1) trodAll_mk0)), rfl, bel.frame _, fun h => by cases h⟩
theorem over : Rows.shapeQuarterTurnsRow.holds Tryd.pinned (OpenSpec.ofChange Rows.shapeQuarterTurnsSpec) :=
  OpenClaim.holds_of_wide 4 Tryd.f4 rfl rfl rfl rfl rfl rfl rfl ⟨rfl, rfl, rfl, rfl, rfl⟩ rfl rfl rfl rfl rfl (by kernel_rfl) Tryd.func4 (by kernel_rfl)
    (of_decide_eq_true (by kernel_rfl)) (by unfold Func.isWrapper; first | (rw [if_pos (by decide +kernel)]; kernel_rfl) | (rw [if_neg (by decide +kernel)]; exact ⟨rfl, rfl⟩))
    (fun os started H enc _ => lifted os started H enc)
theorem card : Rows.ShapeQuarterTurnsCardSaid :=
  Claim7.holds_tied_plain_at .later [] [.data] true (true, "2b15cfb64697e5cf9c188776573029af4f6e71fafe14e52c890bc9ceff45b1f6") false over (fun _ h => by cases h) (by kernel_rfl) (fun _ h => by cases h) shapeQuarterTurns_row_tie rfl ⟨rfl, rfl⟩ (by kernel_rfl) rfl
    (fun f fn hf hfn => by
      obtain rfl : f = 4 := Option.some.inj ((show Tryd.prog.funcNamed "chancery/chancerykeep3.ShapeQuarterTurns" = some 4 by kernel_rfl).symm.trans hf) |>.symm
      obtain rfl : fn = Tryd.f4 := (Option.some.inj (Tryd.func4.symm.trans hfn)).symm
      exact ⟨by kernel_rfl, fun j t ht => by
        rw [Tryd.params4] at ht
        have hm : t ∈ [33, 3] := by simpa using Array.mem_of_getElem? ht
        have hall : ([33, 3].all fun u => !Tryd.prog.wantsStandIn u) = true := by kernel_rfl
        exact (show Tryd.prog.wantsStandIn t = false by simpa using List.all_eq_true.1 hall t hm)⟩)
    (by kernel_rfl)
theorem proved : Rows.ShapeQuarterTurnsCardSaid := card
end Go.Proofs.YtfemkfodakfcmaaDoor.shapeQuarterTurns
namespace Go.Proofs.YtfemkfodakfcmaaDoor
theorem shapeQuarterTurns_holds : Rows.ShapeQuarterTurnsCardSaid := shapeQuarterTurns.proved
#print axioms shapeQuarterTurns_holds
end Go.Proofs.YtfemkfodakfcmaaDoor
