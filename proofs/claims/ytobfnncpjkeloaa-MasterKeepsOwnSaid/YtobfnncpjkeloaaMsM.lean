import Derived.Test.YtobfnncpjkeloaaMsL
namespace Go.Proofs.Ytobfnncpjkeloaa.Sh
open Go Go.RowKit Go.Proofs.Ytobfnncpjkeloaa.Ev Go.Proofs.Try
set_option maxRecDepth 1000000
set_option linter.unusedVariables false
/-! The law's calls -/
abbrev zrow : Nat → Nat → PS := rwj (fun _ _ => 0) (fun _ _ => emp) (fun _ _ => .nilp)
noncomputable def O19 : Orac := addN 9 (fun nb vs H => match nb, vs, H with
  | 0, [.one (.view 0 12 row), .one (.bool tb)], [] => some (true, sv 0 zrow, [])
  | _, _, _ => none) O18
theorem sO19 : Sound prog gl O19 := addN_ok sO18 <| add_ag (D := noD) sO18 sO8 mo (fun nb vs H v H' h => by
  split at h
  · rename_i row tb
    obtain ⟨h2, h3⟩ : sv 0 zrow = v ∧ [] = H' := by simpa using h
    subst h2 h3
    exact ⟨12, _, _, shp_0 row tb, .none 12 _, .inl rfl⟩
  · cases h)
/-- A nil row is a view of nothing. -/
def nilA : List PV → Option (List PV)
  | [.one .nils, v] => some [sv 0 zrow, v]
  | _ => none
noncomputable def O20 : Orac := fun nb f vs H => if f = 8 then (match nilA vs with | some vs' => O19 nb f vs' H | none => O19 nb f vs H) else O19 nb f vs H
theorem sO20 : Sound prog gl O20 := by
  intro nb f vs H v H' h w F β us hL hI hus
  unfold O20 at h
  split at h
  · split at h
    · rename_i vs' hv
      unfold nilA at hv
      split at hv
      · rename_i v2
        obtain rfl := Option.some.inj hv
        refine sO19 nb f _ H v H' h w F β us hL hI ?_
        cases hus with
        | cons a b => exact .cons (RN_ag a (.none 12 _)) b
      · cases hv
    · exact sO19 nb f vs H v H' h w F β us hL hI hus
  · exact sO19 nb f vs H v H' h w F β us hL hI hus
noncomputable def DL : FuncId → PV := fun f => if f = 11 then bl false else DS f
end Go.Proofs.Ytobfnncpjkeloaa.Sh
