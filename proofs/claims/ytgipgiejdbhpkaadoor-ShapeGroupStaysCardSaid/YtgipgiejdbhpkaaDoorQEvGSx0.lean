/- ShapeGroupStays: what the machine's call answers, by the evaluator's word (SzR). No condition but that the arguments lie in memory as told, and the table is the laid one. -/
import Derived.Test.YtgipgiejdbhpkaaDoorSzL
import Derived.Test.YtgipgiejdbhpkaaDoorWWords
import Derived.KernelRfl
namespace Go.Proofs.YtgipgiejdbhpkaaDoor.QEvGS
open Go Go.RowKit Go.Proofs.YtgipgiejdbhpkaaDoor.Ev Go.Proofs.YtgipgiejdbhpkaaDoor.Sh Go.Proofs.YtgipgiejdbhpkaaDoorW.PrintWords Go.Proofs.Tryd
structure S26 where
  f0 : Int
  f1 : Int
  f2 : Int
  f3 : Int
  f4 : Int
  f5 : Int
  f6 : Int
  f7 : Int
  f8 : Int
  f9 : Int
  f10 : ByteArray
  f11 : ByteArray
def k26 : Kd S26 := Kd.iso (Kd.pair (Kd.int .i64) (Kd.pair (Kd.int .i64) (Kd.pair (Kd.int .i64) (Kd.pair (Kd.int .i64) (Kd.pair (Kd.int .i64) (Kd.pair (Kd.int .i64) (Kd.pair (Kd.int .i64) (Kd.pair (Kd.int .i64) (Kd.pair (Kd.int .i64) (Kd.pair (Kd.int .i64) (Kd.pair Kd.string Kd.string))))))))))) (fun x : S26 => (x.f0, x.f1, x.f2, x.f3, x.f4, x.f5, x.f6, x.f7, x.f8, x.f9, x.f10, x.f11))
def nI (x : S26) : Nat → Int := fun j => match j with | 0 => x.f0 | 1 => x.f1 | 2 => x.f2 | 3 => x.f3 | 4 => x.f4 | 5 => x.f5 | 6 => x.f6 | 7 => x.f7 | 8 => x.f8 | _ => x.f9
def nS (x : S26) (j : Nat) : ByteArray := if j = 10 then x.f10 else x.f11
def enc (x : S26) (j : Nat) : PS := if j < 10 then .int .i64 (nI x j) else if j < 12 then .str (nS x j) else .nilp
def zer : S26 := ⟨0, 0, 0, 0, 0, 0, 0, 0, 0, 0, emp, emp⟩
theorem enc_ok {w : World} {F : Nat → Prop} (p : S26) (c : List Value) (hK : k26.K w p c) (j : Nat) (hj : j < 12) : ∃ u, c[j]? = some u ∧ RF w F (enc p j) u := by
  obtain ⟨_, _, rfl, rfl, _, _, rfl, rfl, _, _, rfl, rfl, _, _, rfl, rfl, _, _, rfl, rfl, _, _, rfl, rfl, _, _, rfl, rfl, _, _, rfl, rfl, _, _, rfl, rfl, _, _, rfl, rfl, _, _, rfl, rfl, rfl⟩ := hK
  rcases (by omega : j = 0 ∨ j = 1 ∨ j = 2 ∨ j = 3 ∨ j = 4 ∨ j = 5 ∨ j = 6 ∨ j = 7 ∨ j = 8 ∨ j = 9 ∨ j = 10 ∨ j = 11) with rfl | rfl | rfl | rfl | rfl | rfl | rfl | rfl | rfl | rfl | rfl | rfl <;> exact ⟨_, rfl, by constructor⟩
def rowOf (l : List S26) : Nat → Nat → PS := fun i j => enc (l.getD i zer) j
theorem rowOf_rw (l : List S26) : rowOf l = rwj (fun i => nI (l.getD i zer)) (fun i => nS (l.getD i zer)) (fun _ _ => .nilp) := rfl
theorem ints_view {w : World} {A : Option Addr} {c : Nat} {l : List Int} (hr : Kd.C (Kd.int .i64) w A l.length l) (hc : l.length ≤ c) : RF w (fun b => b < w.heap.size) (.view l.length 1 (rj 1 (fun i _ => l.getD i 0) (fun i _ => .int .i64 (l.getD i 0)))) (.slice A l.length c) := by
  have e : rj 1 (fun i _ => l.getD i 0) (fun i _ => .int .i64 (l.getD i 0)) = fun i j => (fun (x : Int) (_ : Nat) => PS.int .i64 x) (l.getD i 0) j := by
    funext i j; unfold rj; split <;> rfl
  rw [e]
  exact view_of_row (0 : Int) (fun (x : Int) (_ : Nat) => PS.int .i64 x) (fun _ h => h) (by omega) hc hr (fun p cs _ hK _ j hj => by
    obtain rfl : j = 0 := by omega
    have hK : cs = [.int .i64 p] := hK
    exact ⟨_, by rw [hK]; rfl, .int .i64 p⟩)
theorem glob_ok {w : World} {g2 : List Int} {c2 : Nat} (hr2 : Kd.C (Kd.int .i64) w (some ⟨0, 0, none⟩) g2.length g2) (_ : g2.length ≤ c2) (hg : g2 = qtab) : okG w (fun b => b < w.heap.size) gl := by
  intro g s h
  unfold gl at h
  split at h
  · rename_i hgg
    subst hgg
    obtain rfl := Option.some.inj h
    refine ⟨rfl, ?_⟩
    have hc : ∀ j, j < 91 → w.cell? ⟨0, 0 + j, none⟩ = some (.int .i64 (q_qt j)) := fun j hj => by
      have hl : g2.length = 91 := by rw [hg]; rfl
      obtain ⟨ad, e1, e2⟩ := Kd.at_int hr2 (j : Int) (by omega) (by omega)
      obtain rfl := Option.some.inj e1
      rw [Int.toNat_natCast, Addr.add_mid] at e2
      rw [e2, hg]
      rfl
    exact RF.vp 91 _ _ 0 0 (fun j => .int .i64 (q_qt j)) (World.block_lt_of_cell? w _ (hc 0 (by omega))) hc (fun j _ => .int .i64 _)
  · cases h
noncomputable def ck_ShapeGroupStays.f (_ : List S26) (l1 : List Int) (g3 : List Int) : Option Bool := if g3 = qtab ∧ l1.length ≤ 9223372036854775807 then some true else none
theorem ck_ShapeGroupStays.calls (A0 : Option Addr) (c0 : Nat) (l0 : List S26) (A1 : Option Addr) (c1 : Nat) (l1 : List Int) (c3 : Nat) (g3 : List Int) (r : Bool) (w : World) (hr0 : Kd.C k26 w A0 l0.length l0) (hc0 : l0.length ≤ c0) (hr1 : Kd.C (Kd.int .i64) w A1 l1.length l1) (hc1 : l1.length ≤ c1) (hr3 : Kd.C (Kd.int .i64) w (some ⟨0, 0, none⟩) g3.length g3) (hc3 : g3.length ≤ c3) (h : ck_ShapeGroupStays.f l0 l1 g3 = some r) :
    Calls prog 5 #[.slice A0 l0.length c0, .slice A1 l1.length c1] w (fun e w' => e = .returned (.bool r) ∧ Below w.heap.size w w') := by
  unfold ck_ShapeGroupStays.f at h
  split at h
  case isFalse => cases h
  rename_i hg
  obtain rfl := Option.some.inj h
  have hview : RF w (fun b => b < w.heap.size) (.view l0.length 12 (rowOf l0)) (.slice A0 l0.length c0) := view_of_row zer enc (fun _ h => h) (by omega) hc0 hr0 (fun p c _ hK _ j hj => enc_ok p c hK j hj)
  have hME : Sound prog gl (upM (callF prog gl DS (l1.length + 2) Oe4)) := callF_ok sOe4 mo (l1.length + 2)
  have hMA : Sound prog gl (upM (callF prog gl DG (l1.length + 20) O35)) := callF_ok sO35 mo (l1.length + 20)
  have h2 := hg.2
  have hans : upM (callF prog gl DS (l1.length + 2) Oe4) 0 5 [.one (.view l0.length 12 (rowOf l0)), .one (.view l1.length 1 (rj 1 (fun i _ => l1.getD i 0) (fun i _ => .int .i64 (l1.getD i 0))))] [] = some (true, bl true, []) ∨ upM (callF prog gl DG (l1.length + 20) O35) 0 5 [.one (.view l0.length 12 (rowOf l0)), .one (.view l1.length 1 (rj 1 (fun i _ => l1.getD i 0) (fun i _ => .int .i64 (l1.getD i 0))))] [] = some (true, bl true, []) := by
    unfold upM
    rw [rowOf_rw]
    generalize l0.length = n
    cases n with
    | zero => left; rw [gs_zero l1.length h2]; rfl
    | succ q => rcases gs_eq q l1.length h2 _ _ _ _ _ with e | e <;> rw [e] <;> simp
  rcases hans with hans | hans
  · exact calls_of hME hans (u0 := .bool true) rfl (glob_ok hr3 hc3 hg.1) (.cons ⟨hview, rfl⟩ (.cons ⟨ints_view hr1 hc1, rfl⟩ .nil))
  · exact calls_of hMA hans (u0 := .bool true) rfl (glob_ok hr3 hc3 hg.1) (.cons ⟨hview, rfl⟩ (.cons ⟨ints_view hr1 hc1, rfl⟩ .nil))
end Go.Proofs.YtgipgiejdbhpkaaDoor.QEvGS
