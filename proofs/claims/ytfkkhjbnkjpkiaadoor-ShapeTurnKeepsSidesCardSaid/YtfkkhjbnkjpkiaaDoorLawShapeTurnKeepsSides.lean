/- ShapeTurnKeepsSides holds of the given program: at every input it returns true, and each argument reads as before. No condition beyond the row's own. -/
import Derived.Test.YtfkkhjbnkjpkiaaDoorCards
import Derived.Test.YtfkkhjbnkjpkiaaDoorTie
import Derived.Lay
import Derived.SevenTiedAt
import Derived.Test.YtfkkhjbnkjpkiaaDoorRows
import Derived.Test.YtfkkhjbnkjpkiaaDoorQEvTKx0
import Derived.Test.YtfkkhjbnkjpkiaaDoorTypShapeTurnKeepsSides
import Derived.Test.YtfkkhjbnkjpkiaaDoorPureShapeTurnKeepsSides
import Derived.WalkKit
import Derived.ProofKit
import Derived.OpenShut
import Derived.ShutString
import Derived.ChangeOld
import Derived.Below
import Derived.SizedLaws
import Derived.Carry
namespace Go.Proofs.YtfkkhjbnkjpkiaaDoor.shapeTurnKeepsSides
open Go.ChangeShapes Go.WideShapes Go.ChangeAt Go.RowKit Go.Proofs.YtfkkhjbnkjpkiaaDoor.Open Go.Proofs.YtfkkhjbnkjpkiaaDoor.Laid Go.Proofs.YtfkkhjbnkjpkiaaDoor.Pure Go.Proofs.YtfkkhjbnkjpkiaaDoor.QEvTK Go.Proofs.YtfkkhjbnkjpkiaaDoorW.PrintWords
open Go.ChangeMaps (open_string shut_string)
set_option linter.unusedVariables false
theorem own : ownKnob Tryd.prog.godebug = none := by kernel_rfl
theorem laidOut : laidOutB Tryd.prog = true := by kernel_rfl
set_option maxRecDepth 100000 in
theorem lifted (os : Os) (started : os.Started) (H : Type) (enc : TypeId × Value → H) :
    ReturnsInHanded {} Tryd.checked os 3 .any (fun w args => (Rows.shapeTurnKeepsSidesSpec.pre enc Tryd.prog Tryd.f3 Rows.shapeTurnKeepsSidesRow.domain false w args ∧ laidMetH Tryd.prog Rows.shapeTurnKeepsSidesRow.laid w) ∧ sizedMet enc Tryd.prog Tryd.f3 (OpenSpec.ofChange Rows.shapeTurnKeepsSidesSpec) false w args) (Rows.shapeTurnKeepsSidesSpec.post enc Tryd.prog Tryd.f3 false true false false) := by
  refine returnsInHanded_of_change_and (C := Tryd.checked) (X := fun w _ => laidMetH Tryd.prog Rows.shapeTurnKeepsSidesRow.laid w) (fun _ _ _ hh h => h.of_heap hh) own started (by kernel_rfl) Tryd.func3
    (ChangeSpec.witness_shaped (enc := enc) (C := Tryd.checked) (os := os) (X := fun w _ => laidMetH Tryd.prog Rows.shapeTurnKeepsSidesRow.laid w) false (World.laidAll Tryd.prog os Rows.shapeTurnKeepsSidesRow.laid) #[.agg #[.int .i64 0, .int .i64 0, .int .i64 0, .int .i64 0, .int .i64 0, .int .i64 0, .int .i64 0, .int .i64 0, .int .i64 0, .int .i64 0, .string ByteArray.empty, .string ByteArray.empty], .int .i64 0] 8 (World.laidAll_os _ _ _)
      (World.shaped_of_ZipB (by kernel_rfl) (by kernel_rfl)) (by kernel_rfl) (by kernel_rfl) (by kernel_rfl)
      (by rw [MakeChecks.laidMetH_plain _ _ _ (by kernel_rfl)]; exact laidMet_laidAll _ (by kernel_rfl) (by kernel_rfl))) ?_
  intro W base args ds gs before hval0 hW hcnd hsz0 hL0 _
  have hsz : (DataW.weightsEach Tryd.prog (Tryd.f3.params.toList ++ Rows.shapeTurnKeepsSidesSpec.plain.varTypes Tryd.prog) (ds ++ gs)).all (· ≤ reachBytes) = true := hsz0
  have hval : ∀ (j : Nat) t v, Tryd.f3.params[j]? = some t → args[j]? = some v → Value.okWide Tryd.prog W .any base t v := hval0
  have hW' := hW
  obtain ⟨p, q, hA0, hV, rfl, hfz, hnd⟩ := hW
  have hA : DataW.TrodAll enc Tryd.prog W 0 (fun _ => true) true Tryd.f3.params.toList args.toList ds p := hA0
  rw [Tryd.params3] at hA hval hsz
  obtain ⟨v0, vs0, d0, ds0, p0, q0, hargs, rfl, rfl, h0, r0⟩ := trodAll_cons hA
  obtain ⟨v1, vs1, d1, ds1, p1, q1, rfl, rfl, rfl, h1, r1⟩ := trodAll_cons r0
  obtain ⟨rfl, rfl, rfl⟩ := trodAll_nil r1
  obtain rfl : args = #[v0, v1] := by cases args; simp_all
  obtain ⟨rfl, rfl⟩ := trodVars_none hV
  have hL1 : laidMetH Tryd.prog Rows.shapeTurnKeepsSidesRow.laid W := hL0
  rw [MakeChecks.laidMetH_plain _ _ _ (by kernel_rfl)] at hL1
  obtain ⟨ps_, hLv0, _, _⟩ := hL1
  obtain ⟨g0_, t0_, cs0_, fu0_, pp0_, qq0_, ea0_, eb0_, ec0_, ed0_, hLv1⟩ := laid_cons hLv0
  obtain rfl := Option.some.inj ((show Tryd.prog.globalNamed "chancery/shape.quarter" = some 0 by kernel_rfl).symm.trans ea0_)
  obtain rfl := Option.some.inj ((show (Tryd.prog.globals[0]?).map (·.type) = some 75 by kernel_rfl).symm.trans eb0_)
  have hg0 := ghost_array tab0 Tryd.underlying75 (by unfold maxLen; omega) (by kernel_rfl) (tells_int Tryd.underlying3) (by intro a b h; injection h with h; injection h) ea0_ ec0_ ed0_ rfl
  have kk0 := h0
  have lt0 := arg_lt kk0
  obtain ⟨x0, cs0, rfl, hK0, w0⟩ := arg_struct Tryd.underlying23 op23 (hval 0 23 v0 rfl rfl) h0
  obtain ⟨_, _, rfl, rfl, ⟨_, _, rfl, rfl, ⟨_, _, rfl, rfl, ⟨_, _, rfl, rfl, ⟨_, _, rfl, rfl, ⟨_, _, rfl, rfl, ⟨_, _, rfl, rfl, ⟨_, _, rfl, rfl, ⟨_, _, rfl, rfl, ⟨_, _, rfl, rfl, ⟨_, _, rfl, rfl, rfl⟩⟩⟩⟩⟩⟩⟩⟩⟩⟩⟩ := hK0
  obtain ⟨a1, rfl, rfl, rfl, w1⟩ := open_int Tryd.underlying3 (hval 1 3 v1 rfl rfl) h1
  clear hA0 hval0 hsz0 hsz
  have hpure := Pure.ShapeTurnKeepsSides x0 a1 w0 w1
  refine (QEvTK.ck_ShapeTurnKeepsSides.calls x0.f0 x0.f1 x0.f2 x0.f3 x0.f4 x0.f5 x0.f6 x0.f7 x0.f8 x0.f9 x0.f10 x0.f11 a1 _ tab0 true W hg0 (Nat.le_refl _) hpure).mono fun e W' ⟨he, bel0⟩ => ?_
  have bel : Below W.heap.size W W' := bel0
  subst he
  exact ⟨_, rfl, _, _, _, [], _, [], hW', trodAll_mk1 (shut_bool Tryd.underlying4 _), (trodAll_cons_mk (Below.trod laidOut (by kernel_rfl) (of_decide_eq_true (by kernel_rfl)) kk0 bel lt0) (trodAll_cons_mk (shut_int Tryd.underlying3 w1) trodAll_mk0)), rfl, bel.frame _, fun h => by cases h⟩
theorem over : Rows.shapeTurnKeepsSidesRow.holds Tryd.pinned (OpenSpec.ofChange Rows.shapeTurnKeepsSidesSpec) :=
  OpenClaim.holds_of_wide 3 Tryd.f3 rfl rfl rfl rfl rfl rfl rfl ⟨rfl, rfl, rfl, rfl, rfl⟩ rfl rfl rfl rfl rfl (by kernel_rfl) Tryd.func3 (by kernel_rfl)
    (of_decide_eq_true (by kernel_rfl)) (by unfold Func.isWrapper; first | (rw [if_pos (by decide +kernel)]; kernel_rfl) | (rw [if_neg (by decide +kernel)]; exact ⟨rfl, rfl⟩))
    (fun os started H enc _ => lifted os started H enc)
theorem card : Rows.ShapeTurnKeepsSidesCardSaid :=
  Claim7.holds_tied_plain_at .later [] [.data] true (true, "038384753188243b8380e6305f6ef5c815c81c900c9a2bdc26b6c4d25d99471d") false over (fun _ h => by cases h) (by kernel_rfl) (fun _ h => by cases h) shapeTurnKeepsSides_row_tie rfl ⟨rfl, rfl⟩ (by kernel_rfl) rfl
    (fun f fn hf hfn => by
      obtain rfl : f = 3 := Option.some.inj ((show Tryd.prog.funcNamed "chancery/chancerykeep3.ShapeTurnKeepsSides" = some 3 by kernel_rfl).symm.trans hf) |>.symm
      obtain rfl : fn = Tryd.f3 := (Option.some.inj (Tryd.func3.symm.trans hfn)).symm
      exact ⟨by kernel_rfl, fun j t ht => by
        rw [Tryd.params3] at ht
        have hm : t ∈ [23, 3] := by simpa using Array.mem_of_getElem? ht
        have hall : ([23, 3].all fun u => !Tryd.prog.wantsStandIn u) = true := by kernel_rfl
        exact (show Tryd.prog.wantsStandIn t = false by simpa using List.all_eq_true.1 hall t hm)⟩)
    (by kernel_rfl)
theorem proved : Rows.ShapeTurnKeepsSidesCardSaid := card
end Go.Proofs.YtfkkhjbnkjpkiaaDoor.shapeTurnKeepsSides
namespace Go.Proofs.YtfkkhjbnkjpkiaaDoor
theorem shapeTurnKeepsSides_holds : Rows.ShapeTurnKeepsSidesCardSaid := shapeTurnKeepsSides.proved
#print axioms shapeTurnKeepsSides_holds
end Go.Proofs.YtfkkhjbnkjpkiaaDoor
