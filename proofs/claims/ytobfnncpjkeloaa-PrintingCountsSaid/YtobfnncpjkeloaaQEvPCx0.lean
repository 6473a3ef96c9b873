/- PrintingCounts: what the machine's call answers, by the evaluator's word (PrF). No condition but that the arguments lie in memory as told. -/
import Derived.Test.YtobfnncpjkeloaaPrF
import Derived.Test.YtobfnncpjkeloaaWWords
import Derived.KernelRfl
namespace Go.Proofs.Ytobfnncpjkeloaa.QEvPC
open Go Go.RowKit Go.Proofs.Ytobfnncpjkeloaa.Ev Go.Proofs.Ytobfnncpjkeloaa.Sh Go.Proofs.YtobfnncpjkeloaaW.PrintWords Go.Proofs.Try
theorem ints_view {w : World} {A : Option Addr} {c : Nat} {l : List Int} (hr : Kd.C (Kd.int .i64) w A l.length l) (hc : l.length ≤ c) : RF w (fun b => b < w.heap.size) (.view l.length 1 (fun i _ => .int .i64 (l.getD i 0))) (.slice A l.length c) := by
  have hs : 0 < (Kd.int .i64).sz := by decide
  exact view_of_row (0 : Int) (fun (x : Int) (_ : Nat) => PS.int .i64 x) (fun _ h => h) hs hc hr (fun p cs _ hK hl j hj => by
    obtain rfl := hK
    have hj : j < 1 := hj
    obtain rfl : j = 0 := by omega
    exact ⟨_, rfl, .int .i64 p⟩)
theorem gl_ok (w : World) : okG w (fun b => b < w.heap.size) gl := fun g s h => by cases h
theorem rj_self (l : List Int) : (fun (i _ : Nat) => PS.int .i64 (l.getD i 0)) = rj 1 (fun i _ => l.getD i 0) (fun i _ => PS.int .i64 (l.getD i 0)) := by
  funext i j
  unfold rj
  split <;> rfl
def ck_PrintingCounts.f (_ : List Int) (_ : Int) (_ _ : Bool) (_ _ : Int) : Option Bool := some true
theorem ck_PrintingCounts.calls (A0 : Option Addr) (c0 : Nat) (l0 : List Int) (a1 : Int) (a2 a3 : Bool) (a4 a5 : Int) (r : Bool) (w : World) (hr0 : Kd.C (Kd.int .i64) w A0 l0.length l0) (hc0 : l0.length ≤ c0) (h : ck_PrintingCounts.f l0 a1 a2 a3 a4 a5 = some r) :
    Calls prog 7 #[.slice A0 l0.length c0, .int .i64 a1, .bool a2, .bool a3, .int .i64 a4, .int .i64 a5] w (fun e w' => e = .returned (.bool r) ∧ Below w.heap.size w w') := by
  obtain rfl := Option.some.inj h
  have hv := ints_view hr0 hc0
  rw [rj_self] at hv
  have hM : Sound prog gl (upM (callF prog gl DL 1000 O10)) := callF_ok sO10 mo 1000
  have hans : upM (callF prog gl DL 1000 O10) 0 7 [vi l0.length (rj 1 (fun i _ => l0.getD i 0) (fun i _ => PS.int .i64 (l0.getD i 0))), i64 a1, bl a2, bl a3, i64 a4, i64 a5] [] = some (true, bl true, []) := by
    unfold upM
    rw [lw_eq]
    rfl
  exact calls_of hM hans (u0 := .bool true) rfl (gl_ok w) (.cons ⟨hv, rfl⟩ (.cons ⟨.int .i64 a1, rfl⟩ (.cons ⟨.bool a2, rfl⟩ (.cons ⟨.bool a3, rfl⟩ (.cons ⟨.int .i64 a4, rfl⟩ (.cons ⟨.int .i64 a5, rfl⟩ .nil))))))
end Go.Proofs.Ytobfnncpjkeloaa.QEvPC
