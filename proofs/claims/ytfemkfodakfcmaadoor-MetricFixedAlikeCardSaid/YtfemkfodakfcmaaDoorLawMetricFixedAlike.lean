/- MetricFixedAlike holds of the given program: at every input it returns true, and each argument reads as before. No condition beyond the row's own. -/
import Derived.Test.YtfemkfodakfcmaaDoorCards
import Derived.Test.YtfemkfodakfcmaaDoorTie
import Derived.Lay
import Derived.SevenTiedAt
import Derived.Test.YtfemkfodakfcmaaDoorRows
import Derived.Test.YtfemkfodakfcmaaDoorQMetricFixedAlikex5
import Derived.Test.YtfemkfodakfcmaaDoorTypMetricFixedAlike
import Derived.Test.YtfemkfodakfcmaaDoorPureMetricFixedAlike
import Derived.WalkKit
import Derived.ProofKit
import Derived.OpenShut
import Derived.ShutString
import Derived.ChangeOld
import Derived.Below
import Derived.SizedLaws
import Derived.Carry
namespace Go.Proofs.YtfemkfodakfcmaaDoor.metricFixedAlike
open Go.ChangeShapes Go.WideShapes Go.ChangeAt Go.RowKit Go.Proofs.YtfemkfodakfcmaaDoor.Open Go.Proofs.YtfemkfodakfcmaaDoor.Laid Go.Proofs.YtfemkfodakfcmaaDoor.Pure Go.Proofs.YtfemkfodakfcmaaDoor.QMetricFixedAlike Go.Proofs.YtfemkfodakfcmaaDoorW.PrintWords
open Go.ChangeMaps (open_string shut_string)
set_option linter.unusedVariables false
theorem own : ownKnob Tryd.prog.godebug = none := by kernel_rfl
theorem laidOut : laidOutB Tryd.prog = true := by kernel_rfl
set_option maxRecDepth 100000 in
theorem lifted (os : Os) (started : os.Started) (H : Type) (enc : TypeId × Value → H) :
    ReturnsInHanded {} Tryd.checked os 3 .any (fun w args => (Rows.metricFixedAlikeSpec.pre enc Tryd.prog Tryd.f3 Rows.metricFixedAlikeRow.domain false w args ∧ laidMetH Tryd.prog Rows.metricFixedAlikeRow.laid w) ∧ sizedMet enc Tryd.prog Tryd.f3 (OpenSpec.ofChange Rows.metricFixedAlikeSpec) false w args) (Rows.metricFixedAlikeSpec.post enc Tryd.prog Tryd.f3 false true false false) := by
  refine returnsInHanded_of_change_and (C := Tryd.checked) (X := fun w _ => laidMetH Tryd.prog Rows.metricFixedAlikeRow.laid w) (fun _ _ _ hh h => h.of_heap hh) own started (by kernel_rfl) Tryd.func3
    (ChangeSpec.witness_shaped (enc := enc) (C := Tryd.checked) (os := os) (X := fun w _ => laidMetH Tryd.prog Rows.metricFixedAlikeRow.laid w) false (World.laidAll Tryd.prog os Rows.metricFixedAlikeRow.laid) #[.int .i64 0, .int .i64 0, .agg #[.int .i64 0, .bool false, .bool false]] 8 (World.laidAll_os _ _ _)
      (World.shaped_of_ZipB (by kernel_rfl) (by kernel_rfl)) (by kernel_rfl) (by kernel_rfl) (by kernel_rfl)
      (by rw [MakeChecks.laidMetH_plain _ _ _ (by kernel_rfl)]; exact laidMet_laidAll _ (by kernel_rfl) (by kernel_rfl))) ?_
  intro W base args ds gs before hval0 hW hcnd hsz0 hL0 _
  have hsz : (DataW.weightsEach Tryd.prog (Tryd.f3.params.toList ++ Rows.metricFixedAlikeSpec.plain.varTypes Tryd.prog) (ds ++ gs)).all (· ≤ reachBytes) = true := hsz0
  have hval : ∀ (j : Nat) t v, Tryd.f3.params[j]? = some t → args[j]? = some v → Value.okWide Tryd.prog W .any base t v := hval0
  have hW' := hW
  obtain ⟨p, q, hA0, hV, rfl, hfz, hnd⟩ := hW
  have hA : DataW.TrodAll enc Tryd.prog W 0 (fun _ => true) true Tryd.f3.params.toList args.toList ds p := hA0
  rw [Tryd.params3] at hA hval hsz
  obtain ⟨v0, vs0, d0, ds0, p0, q0, hargs, rfl, rfl, h0, r0⟩ := trodAll_cons hA
  obtain ⟨v1, vs1, d1, ds1, p1, q1, rfl, rfl, rfl, h1, r1⟩ := trodAll_cons r0
  obtain ⟨v2, vs2, d2, ds2, p2, q2, rfl, rfl, rfl, h2, r2⟩ := trodAll_cons r1
  obtain ⟨rfl, rfl, rfl⟩ := trodAll_nil r2
  obtain rfl : args = #[v0, v1, v2] := by cases args; simp_all
  obtain ⟨rfl, rfl⟩ := trodVars_none hV
  have hL1 : laidMetH Tryd.prog Rows.metricFixedAlikeRow.laid W := hL0
  rw [MakeChecks.laidMetH_plain _ _ _ (by kernel_rfl)] at hL1
  obtain ⟨ps_, hLv0, _, _⟩ := hL1
  obtain ⟨g0_, t0_, cs0_, fu0_, pp0_, qq0_, ea0_, eb0_, ec0_, ed0_, hLv1⟩ := laid_cons hLv0
  obtain rfl := Option.some.inj ((show Tryd.prog.globalNamed "chancery/metric.marks" = some 1 by kernel_rfl).symm.trans ea0_)
  obtain rfl := Option.some.inj ((show (Tryd.prog.globals[1]?).map (·.type) = some 61 by kernel_rfl).symm.trans eb0_)
  have hg1 := ghost_slice tab1 Tryd.underlying61 (by kernel_rfl) (te73) te73_inj ea0_ ec0_ ed0_ rfl
  obtain ⟨g1_, t1_, cs1_, fu1_, pp1_, qq1_, ea1_, eb1_, ec1_, ed1_, hLv2⟩ := laid_cons hLv1
  obtain rfl := Option.some.inj ((show Tryd.prog.globalNamed "chancery/metric.others" = some 0 by kernel_rfl).symm.trans ea1_)
  obtain rfl := Option.some.inj ((show (Tryd.prog.globals[0]?).map (·.type) = some 61 by kernel_rfl).symm.trans eb1_)
  have hg0 := ghost_slice tab0 Tryd.underlying61 (by kernel_rfl) (te73) te73_inj ea1_ ec1_ ed1_ rfl
  obtain ⟨a0, rfl, rfl, rfl, w0⟩ := open_int Tryd.underlying3 (hval 0 3 v0 rfl rfl) h0
  obtain ⟨a1, rfl, rfl, rfl, w1⟩ := open_int Tryd.underlying3 (hval 1 3 v1 rfl rfl) h1
  have kk2 := h2
  have lt2 := arg_lt kk2
  obtain ⟨x2, cs2, rfl, hK2, w2⟩ := arg_struct Tryd.underlying23 op23 (hval 2 23 v2 rfl rfl) h2
  obtain ⟨_, _, rfl, rfl, ⟨_, _, rfl, rfl, rfl⟩⟩ := hK2
  clear hA0 hval0 hsz0 hsz
  obtain ⟨k, hpure⟩ := Pure.MetricFixedAlike a0 a1 x2 w0 w1 w2
  refine (QMetricFixedAlike.ck_MetricFixedAlike.calls k a0 a1 x2.f0 x2.f1 x2.f2 _ [tab0] _ [tab1] true W hg0 (Nat.le_refl _) hg1 (Nat.le_refl _) hpure).mono fun e W' ⟨he, bel0⟩ => ?_
  have bel : Below W.heap.size W W' := bel0
  subst he
  exact ⟨_, rfl, _, _, _, [], _, [], hW', trodAll_mk1 (shut_bool Tryd.underlying4 _), (trodAll_cons_mk (shut_int Tryd.underlying3 w0) (trodAll_cons_mk (shut_int Tryd.underlying3 w1) (trodAll_cons_mk (Below.trod laidOut (by kernel_rfl) (of_decide_eq_true (by kernel_rfl)) kk2 bel lt2) trodAll_mk0))), rfl, bel.frame _, fun h => by cases h⟩
theorem over : Rows.metricFixedAlikeRow.holds Tryd.pinned (OpenSpec.ofChange Rows.metricFixedAlikeSpec) :=
  OpenClaim.holds_of_wide 3 Tryd.f3 rfl rfl rfl rfl rfl rfl rfl ⟨rfl, rfl, rfl, rfl, rfl⟩ rfl rfl rfl rfl rfl (by kernel_rfl) Tryd.func3 (by kernel_rfl)
    (of_decide_eq_true (by kernel_rfl)) (by unfold Func.isWrapper; first | (rw [if_pos (by decide +kernel)]; kernel_rfl) | (rw [if_neg (by decide +kernel)]; exact ⟨rfl, rfl⟩))
    (fun os started H enc _ => lifted os started H enc)
theorem card : Rows.MetricFixedAlikeCardSaid :=
  Claim7.holds_tied_plain_at .later [] [.widerDeep, .widerDeep] true (true, "2b15cfb64697e5cf9c188776573029af4f6e71fafe14e52c890bc9ceff45b1f6") false over (fun _ h => by cases h) (by kernel_rfl) (fun _ h => by cases h) metricFixedAlike_row_tie rfl ⟨rfl, rfl⟩ (by kernel_rfl) rfl
    (fun f fn hf hfn => by
      obtain rfl : f = 3 := Option.some.inj ((show Tryd.prog.funcNamed "chancery/chancerykeep3.MetricFixedAlike" = some 3 by kernel_rfl).symm.trans hf) |>.symm
      obtain rfl : fn = Tryd.f3 := (Option.some.inj (Tryd.func3.symm.trans hfn)).symm
      exact ⟨by kernel_rfl, fun j t ht => by
        rw [Tryd.params3] at ht
        have hm : t ∈ [3, 3, 23] := by simpa using Array.mem_of_getElem? ht
        have hall : ([3, 3, 23].all fun u => !Tryd.prog.wantsStandIn u) = true := by kernel_rfl
        exact (show Tryd.prog.wantsStandIn t = false by simpa using List.all_eq_true.1 hall t hm)⟩)
    (by kernel_rfl)
theorem proved : Rows.MetricFixedAlikeCardSaid := card
end Go.Proofs.YtfemkfodakfcmaaDoor.metricFixedAlike
namespace Go.Proofs.YtfemkfodakfcmaaDoor
theorem metricFixedAlike_holds : Rows.MetricFixedAlikeCardSaid := metricFixedAlike.proved
#print axioms metricFixedAlike_holds
end Go.Proofs.YtfemkfodakfcmaaDoor
