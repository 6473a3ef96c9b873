/- TimelineLastPicture: what the machine's call answers, by the evaluator's word (TlW). No condition but that the arguments lie in memory as told. -/
import Derived.Test.YtlhgmlfhlbmjpaaTlW
import Derived.Test.YtlhgmlfhlbmjpaaWWords
import Derived.KernelRfl
namespace Go.Proofs.Ytlhgmlfhlbmjpaa.QEvLP
open Go Go.RowKit Go.Proofs.Ytlhgmlfhlbmjpaa.Ev Go.Proofs.Ytlhgmlfhlbmjpaa.Sh Go.Proofs.YtlhgmlfhlbmjpaaW.PrintWords Go.Proofs.Try
set_option linter.unusedVariables false
structure S38 where
  f0 : Int
  f1 : Int
  f2 : Int
  f3 : Int
  f4 : Int
  f5 : Int
  f6 : Int
def k38 : Kd S38 := Kd.iso (Kd.pair (Kd.int .i64) (Kd.pair (Kd.int .i64) (Kd.pair (Kd.int .i64) (Kd.pair (Kd.int .i64) (Kd.pair (Kd.int .i64) (Kd.pair (Kd.int .i64) (Kd.int .i64))))))) (fun x : S38 => (x.f0, x.f1, x.f2, x.f3, x.f4, x.f5, x.f6))
def nums (x : S38) : List Int := [x.f0, x.f1, x.f2, x.f3, x.f4, x.f5, x.f6]
def numsOf (l : List S38) : Nat → Nat → Int := fun i j => (nums (l.getD i ⟨0, 0, 0, 0, 0, 0, 0⟩)).getD j 0
/-- A caller's effects. -/
theorem effs_view {w : World} {A : Option Addr} {c : Nat} {l : List S38} (hr : Kd.C k38 w A l.length l) (hc : l.length ≤ c) : RF w (fun b => b < w.heap.size) (.view l.length 7 (fun i j => .int .i64 (numsOf l i j))) (.slice A l.length c) := by
  have hs : 0 < k38.sz := by decide
  exact view_of_row (⟨0, 0, 0, 0, 0, 0, 0⟩ : S38) (fun (x : S38) (j : Nat) => PS.int .i64 ((nums x).getD j 0)) (fun _ h => h) hs hc hr (fun p cs _ hK hl j hj => by
    obtain ⟨_, _, rfl, rfl, ⟨_, _, rfl, rfl, ⟨_, _, rfl, rfl, ⟨_, _, rfl, rfl, ⟨_, _, rfl, rfl, ⟨_, _, rfl, rfl, rfl⟩⟩⟩⟩⟩⟩ := hK
    have hj : j < 7 := hj
    match j, hj with
    | 0, _ => exact ⟨_, rfl, .int .i64 p.f0⟩
    | 1, _ => exact ⟨_, rfl, .int .i64 p.f1⟩
    | 2, _ => exact ⟨_, rfl, .int .i64 p.f2⟩
    | 3, _ => exact ⟨_, rfl, .int .i64 p.f3⟩
    | 4, _ => exact ⟨_, rfl, .int .i64 p.f4⟩
    | 5, _ => exact ⟨_, rfl, .int .i64 p.f5⟩
    | 6, _ => exact ⟨_, rfl, .int .i64 p.f6⟩)
theorem gl_ok (w : World) : okG w (fun b => b < w.heap.size) gl := fun g s h => by cases h
theorem rj_self (g : Nat → Nat → Int) : (fun i j => PS.int .i64 (g i j)) = rj 7 g (fun i j => PS.int .i64 (g i j)) := by
  funext i j
  unfold rj
  split <;> rfl
def ck_TimelineLastPicture.f (_ : List S38) : Option Bool := some true
theorem ck_TimelineLastPicture.calls (A0 : Option Addr) (c0 : Nat) (l0 : List S38) (r : Bool) (w : World) (hr0 : Kd.C k38 w A0 l0.length l0) (hc0 : l0.length ≤ c0) (h : ck_TimelineLastPicture.f l0 = some r) :
    Calls prog 4 #[.slice A0 l0.length c0] w (fun e w' => e = .returned (.bool r) ∧ Below w.heap.size w w') := by
  obtain rfl := Option.some.inj h
  have hv : RF w (fun b => b < w.heap.size) (.view l0.length 7 (rj 7 (numsOf l0) (fun i j => .int .i64 (numsOf l0 i j)))) (.slice A0 l0.length c0) := by
    rw [← rj_self]; exact effs_view hr0 hc0
  have go : ∀ M, Sound prog gl (upM (callF prog gl DS 20 M)) → callF prog gl DS 20 M 0 4 [.one (.view l0.length 7 (rj 7 (numsOf l0) (fun i j => .int .i64 (numsOf l0 i j))))] [] = some (bl true, []) → Calls prog 4 #[.slice A0 l0.length c0] w (fun e w' => e = .returned (.bool true) ∧ Below w.heap.size w w') := fun M hM he => by
    have hans : upM (callF prog gl DS 20 M) 0 4 [.one (.view l0.length 7 (rj 7 (numsOf l0) (fun i j => .int .i64 (numsOf l0 i j))))] [] = some (true, bl true, []) := by
      unfold upM
      rw [he]
      rfl
    exact calls_of hM hans (u0 := .bool true) rfl (gl_ok w) (.cons ⟨hv, rfl⟩ .nil)
  rcases lp_any l0.length (numsOf l0) (fun i j => .int .i64 (numsOf l0 i j)) with h1 | h1
  · exact go _ (callF_ok sO18 mo 20) h1
  · exact go _ (callF_ok sO42 mo 20) h1
end Go.Proofs.Ytlhgmlfhlbmjpaa.QEvLP
