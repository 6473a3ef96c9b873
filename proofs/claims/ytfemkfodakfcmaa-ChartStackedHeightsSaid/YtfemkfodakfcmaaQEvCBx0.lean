/- ChartBarsInside, ChartStackedHeights: what the machine's calls answer, by the evaluator's word (ChP, ChS). No condition but that the arguments lie in memory as told. -/
import Derived.Test.YtfemkfodakfcmaaChS
import Derived.Test.YtfemkfodakfcmaaWWords
import Derived.KernelRfl
namespace Go.Proofs.Ytfemkfodakfcmaa.QEvCB
open Go Go.RowKit Go.Proofs.Ytfemkfodakfcmaa.Ev Go.Proofs.Ytfemkfodakfcmaa.Sh Go.Proofs.YtfemkfodakfcmaaW.PrintWords Go.Proofs.Try
/-- A caller's numbers. -/
theorem ints_view {w : World} {A : Option Addr} {c : Nat} {l : List Int} (hr : Kd.C (Kd.int .i64) w A l.length l) (hc : l.length ≤ c) : RF w (fun b => b < w.heap.size) (.view l.length 1 (q_ir fun k => l.getD k 0)) (.slice A l.length c) :=
  view_of_row 0 (fun (x : Int) (_ : Nat) => PS.int .i64 x) (fun _ h => h) (by omega) hc hr (fun p cs _ hK hl j hj => by
    obtain rfl : cs = [.int .i64 p] := hK
    obtain rfl : j = 0 := by simp at hj; omega
    exact ⟨_, rfl, .int .i64 p⟩)
/-- Their rows. -/
theorem rows_view {w : World} {A : Option Addr} {c : Nat} {l : List (List Int)} (hr : Kd.C (Kd.slice 3 (Kd.int .i64)) w A l.length l) (hc : l.length ≤ c) : RF w (fun b => b < w.heap.size) (.view l.length 1 (q_s2 (fun i => (l.getD i []).length) fun i k => (l.getD i []).getD k 0)) (.slice A l.length c) :=
  view_of_row [] (fun (x : List Int) (_ : Nat) => PS.view x.length 1 (q_ir fun k => x.getD k 0)) (fun _ h => h) (by omega) hc hr (fun p cs _ hK hl j hj => by
    obtain ⟨A', c', rfl, hc', hr'⟩ := hK
    obtain rfl : j = 0 := by simp at hj; omega
    exact ⟨_, rfl, ints_view hr' hc'⟩)
theorem strs_view {w : World} {A : Option Addr} {c : Nat} {l : List ByteArray} (hr : Kd.C Kd.string w A l.length l) (hc : l.length ≤ c) : RF w (fun b => b < w.heap.size) (.view l.length 1 (fun i _ => .str (l.getD i ByteArray.empty))) (.slice A l.length c) :=
  view_of_row ByteArray.empty (fun (x : ByteArray) (_ : Nat) => PS.str x) (fun _ h => h) (by omega) hc hr (fun p cs _ hK hl j hj => by
    obtain rfl : cs = [.string p] := hK
    obtain rfl : j = 0 := by simp at hj; omega
    exact ⟨_, rfl, .str p⟩)
theorem gl_ok (w : World) : okG w (fun b => b < w.heap.size) gl := fun g s h => by cases h
theorem chart_arg {w : World} {a0_0 : Int} {A0_1 : Option Addr} {c0_1 : Nat} {l0_1 : List ByteArray} {A0_2 : Option Addr} {c0_2 : Nat} {l0_2 : List (List Int)} (hr0_1 : Kd.C Kd.string w A0_1 l0_1.length l0_1) (hc0_1 : l0_1.length ≤ c0_1) (hr0_2 : Kd.C (Kd.slice 3 (Kd.int .i64)) w A0_2 l0_2.length l0_2) (hc0_2 : l0_2.length ≤ c0_2) :
    RN 0 w (fun b => b < w.heap.size) (fun _ => none) (A0v a0_0 l0_1.length l0_2.length (fun i _ => .str (l0_1.getD i ByteArray.empty)) (q_s2 (fun i => (l0_2.getD i []).length) fun i k => (l0_2.getD i []).getD k 0)) (.agg #[.int .i64 a0_0, .slice A0_1 l0_1.length c0_1, .slice A0_2 l0_2.length c0_2]) :=
  ⟨⟨_, rfl, .cons (.int .i64 a0_0) (.cons (strs_view hr0_1 hc0_1) (.cons (rows_view hr0_2 hc0_2) .nil))⟩, rfl⟩
def ck_ChartBarsInside.f (_ : Int) (_ : List ByteArray) (_ : List (List Int)) (_ _ _ _ : Int) : Option Bool := some true
theorem ck_ChartBarsInside.calls (a0_0 : Int) (A0_1 : Option Addr) (c0_1 : Nat) (l0_1 : List ByteArray) (A0_2 : Option Addr) (c0_2 : Nat) (l0_2 : List (List Int)) (a1 a2 a3 a4 : Int) (r : Bool) (w : World) (hr0_1 : Kd.C Kd.string w A0_1 l0_1.length l0_1) (hc0_1 : l0_1.length ≤ c0_1) (hr0_2 : Kd.C (Kd.slice 3 (Kd.int .i64)) w A0_2 l0_2.length l0_2) (hc0_2 : l0_2.length ≤ c0_2) (h : ck_ChartBarsInside.f a0_0 l0_1 l0_2 a1 a2 a3 a4 = some r) :
    Calls prog 4 #[.agg #[.int .i64 a0_0, .slice A0_1 l0_1.length c0_1, .slice A0_2 l0_2.length c0_2], .int .i64 a1, .int .i64 a2, .int .i64 a3, .int .i64 a4] w (fun e w' => e = .returned (.bool r) ∧ Below w.heap.size w w') := by
  obtain rfl := Option.some.inj h
  have hM : Sound prog gl (upM (callF prog gl DL 2500 O16)) := callF_ok sO16 mo 2500
  have hans : upM (callF prog gl DL 2500 O16) 0 4 [A0v a0_0 l0_1.length l0_2.length (fun i _ => .str (l0_1.getD i ByteArray.empty)) (q_s2 (fun i => (l0_2.getD i []).length) fun i k => (l0_2.getD i []).getD k 0), i64 a1, i64 a2, i64 a3, i64 a4] [] = some (true, bl true, []) := by
    unfold upM
    rw [bi_true _ _ _ _ _ _ _ _ _ ⟨_, _, rfl⟩]
    rfl
  exact calls_of hM hans (u0 := .bool true) rfl (gl_ok w) (.cons (chart_arg hr0_1 hc0_1 hr0_2 hc0_2) (.cons ⟨.int .i64 a1, rfl⟩ (.cons ⟨.int .i64 a2, rfl⟩ (.cons ⟨.int .i64 a3, rfl⟩ (.cons ⟨.int .i64 a4, rfl⟩ .nil)))))
def ck_ChartStackedHeights.f (_ : Int) (_ : List ByteArray) (_ : List (List Int)) (_ : Int) : Option Bool := some true
theorem ck_ChartStackedHeights.calls (a0_0 : Int) (A0_1 : Option Addr) (c0_1 : Nat) (l0_1 : List ByteArray) (A0_2 : Option Addr) (c0_2 : Nat) (l0_2 : List (List Int)) (a1 : Int) (r : Bool) (w : World) (hr0_1 : Kd.C Kd.string w A0_1 l0_1.length l0_1) (hc0_1 : l0_1.length ≤ c0_1) (hr0_2 : Kd.C (Kd.slice 3 (Kd.int .i64)) w A0_2 l0_2.length l0_2) (hc0_2 : l0_2.length ≤ c0_2) (h : ck_ChartStackedHeights.f a0_0 l0_1 l0_2 a1 = some r) :
    Calls prog 5 #[.agg #[.int .i64 a0_0, .slice A0_1 l0_1.length c0_1, .slice A0_2 l0_2.length c0_2], .int .i64 a1] w (fun e w' => e = .returned (.bool r) ∧ Below w.heap.size w w') := by
  obtain rfl := Option.some.inj h
  have hM : Sound prog gl (upM (callF prog gl DL 2500 O16)) := callF_ok sO16 mo 2500
  have hans : upM (callF prog gl DL 2500 O16) 0 5 [A0v a0_0 l0_1.length l0_2.length (fun i _ => .str (l0_1.getD i ByteArray.empty)) (q_s2 (fun i => (l0_2.getD i []).length) fun i k => (l0_2.getD i []).getD k 0), i64 a1] [] = some (true, bl true, []) := by
    unfold upM
    rw [sh_true _ _ _ _ _ _ ⟨_, _, rfl⟩]
    rfl
  exact calls_of hM hans (u0 := .bool true) rfl (gl_ok w) (.cons (chart_arg hr0_1 hc0_1 hr0_2 hc0_2) (.cons ⟨.int .i64 a1, rfl⟩ .nil))
end Go.Proofs.Ytfemkfodakfcmaa.QEvCB
