/- ChartPartsOfWhole holds of the given program: at every input it returns true, and each argument reads as before. No condition beyond the row's own. -/
import Derived.Test.YtohaoaiffneamaaRows
import Derived.Test.YtohaoaiffneamaaQChartPartsOfWholex6
import Derived.Test.YtohaoaiffneamaaTypChartPartsOfWhole
import Derived.Test.YtohaoaiffneamaaPureChartPartsOfWhole
import Derived.WalkKit
import Derived.ProofKit
import Derived.OpenShut
import Derived.ShutString
import Derived.ChangeOld
import Derived.Below
import Derived.SizedLaws
import Derived.Carry
namespace Go.Proofs.Ytohaoaiffneamaa.chartPartsOfWhole
open Go.ChangeShapes Go.WideShapes Go.ChangeAt Go.RowKit Go.Proofs.Ytohaoaiffneamaa.Open Go.Proofs.Ytohaoaiffneamaa.Pure Go.Proofs.Ytohaoaiffneamaa.QChartPartsOfWhole Go.Proofs.YtohaoaiffneamaaW.PrintWords
open Go.ChangeMaps (open_string shut_string)
set_option linter.unusedVariables false
theorem own : ownKnob Try.prog.godebug = none := by kernel_rfl
theorem laidOut : laidOutB Try.prog = true := by kernel_rfl
set_option maxRecDepth 100000 in
theorem lifted (os : Os) (started : os.Started) (H : Type) (enc : TypeId × Value → H) :
    ReturnsInHanded {} Try.checked os 6 .any (Rows.chartPartsOfWholeSpec.pre6 enc Try.prog Try.f6 Rows.chartPartsOfWholeRow.domain false) (Rows.chartPartsOfWholeSpec.post enc Try.prog Try.f6 false true false false) := by
  refine returnsInHanded_of_change_sized (C := Try.checked) own started (by kernel_rfl) Try.func6
    (ChangeSpec.witness6 (enc := enc) (C := Try.checked) false ⟨#[], #[.agg #[.int .i64 0, .slice none 0 0, .slice none 0 0]], []⟩ 8 (by kernel_rfl) (by kernel_rfl) (by kernel_rfl) (by kernel_rfl)) ?_
  intro W base args ds gs before hval0 hW hcnd hsz0 _
  have hsz : (DataW.weightsEach Try.prog (Try.f6.params.toList ++ Rows.chartPartsOfWholeSpec.plain.varTypes Try.prog) (ds ++ gs)).all (· ≤ reachBytes) = true := hsz0
  have hval : ∀ (j : Nat) t v, Try.f6.params[j]? = some t → args[j]? = some v → Value.okWide Try.prog W .any base t v := hval0
  have hW' := hW
  obtain ⟨p, q, hA0, hV, rfl, hfz, hnd⟩ := hW
  have hA : DataW.TrodAll enc Try.prog W 0 (fun _ => true) true Try.f6.params.toList args.toList ds p := hA0
  rw [Try.params6] at hA hval hsz
  obtain ⟨v0, vs0, d0, ds0, p0, q0, hargs, rfl, rfl, h0, r0⟩ := trodAll_cons hA
  obtain ⟨rfl, rfl, rfl⟩ := trodAll_nil r0
  obtain rfl : args = #[v0] := by cases args; simp_all
  obtain ⟨rfl, rfl⟩ := trodVars_none hV
  have kk0 := h0
  have lt0 := arg_lt kk0
  obtain ⟨x0, cs0, rfl, hK0, w0⟩ := arg_struct Try.underlying52 op52 (hval 0 52 v0 rfl rfl) h0
  obtain ⟨_, _, rfl, rfl, ⟨_, _, rfl, ⟨A0_1, c0_1, rfl, hc0_1, hr0_1⟩, ⟨A0_2, c0_2, rfl, hc0_2, hr0_2⟩⟩⟩ := hK0
  clear hA0 hval0 hsz0 hsz
  obtain ⟨k, hpure⟩ := Pure.ChartPartsOfWhole x0 w0
  refine (QChartPartsOfWhole.ck_ChartPartsOfWhole.calls k x0.f0 _ _ x0.f1 _ _ x0.f2 true W hr0_1 hc0_1 hr0_2 hc0_2 hpure).mono fun e W' ⟨he, bel0⟩ => ?_
  have bel : Below W.heap.size W W' := bel0
  subst he
  exact ⟨_, rfl, _, _, _, [], _, [], hW', trodAll_mk1 (shut_bool Try.underlying4 _), (trodAll_cons_mk (Below.trod laidOut (by kernel_rfl) (of_decide_eq_true (by kernel_rfl)) kk0 bel lt0) trodAll_mk0), rfl, bel.frame _, fun h => by cases h⟩
theorem over : Rows.chartPartsOfWholeRow.holds Try.pinned (OpenSpec.ofChange Rows.chartPartsOfWholeSpec) :=
  OpenClaim.holds_of_wide 6 Try.f6 rfl rfl rfl rfl rfl rfl rfl ⟨rfl, rfl, rfl, rfl, rfl⟩ rfl rfl rfl rfl rfl (by kernel_rfl) Try.func6 (by kernel_rfl)
    (of_decide_eq_true (by kernel_rfl)) (by unfold Func.isWrapper; first | (rw [if_pos (by decide +kernel)]; kernel_rfl) | (rw [if_neg (by decide +kernel)]; exact ⟨rfl, rfl⟩))
    (fun os started H enc _ => lifted os started H enc)
theorem proved : Rows.ChartPartsOfWholeSaid := over
end Go.Proofs.Ytohaoaiffneamaa.chartPartsOfWhole
namespace Go.Proofs.Ytohaoaiffneamaa
theorem chartPartsOfWhole_holds : Rows.ChartPartsOfWholeSaid := chartPartsOfWhole.proved
#print axioms chartPartsOfWhole_holds
end Go.Proofs.Ytohaoaiffneamaa
