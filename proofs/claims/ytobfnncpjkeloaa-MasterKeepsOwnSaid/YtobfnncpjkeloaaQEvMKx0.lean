/- MasterKeepsOwn: what the machine's call answers, by the evaluator's word (MsP). No condition but that the arguments lie in memory as told. -/
import Derived.Test.YtobfnncpjkeloaaMsP
import Derived.Test.YtobfnncpjkeloaaWWords
import Derived.KernelRfl
namespace Go.Proofs.Ytobfnncpjkeloaa.QEvMK
open Go Go.RowKit Go.Proofs.Ytobfnncpjkeloaa.Ev Go.Proofs.Ytobfnncpjkeloaa.Sh Go.Proofs.YtobfnncpjkeloaaW.PrintWords Go.Proofs.Try
structure S28 where
  f0 : Int
  f1 : Int
  f2 : Int
  f3 : Int
  f4 : Int
  f5 : Int
  f6 : Int
  f7 : Int
  f8 : Int
  f9 : Int
  f10 : ByteArray
  f11 : ByteArray
def k28 : Kd S28 := Kd.iso (Kd.pair (Kd.int .i64) (Kd.pair (Kd.int .i64) (Kd.pair (Kd.int .i64) (Kd.pair (Kd.int .i64) (Kd.pair (Kd.int .i64) (Kd.pair (Kd.int .i64) (Kd.pair (Kd.int .i64) (Kd.pair (Kd.int .i64) (Kd.pair (Kd.int .i64) (Kd.pair (Kd.int .i64) (Kd.pair Kd.string Kd.string))))))))))) (fun x : S28 => (x.f0, x.f1, x.f2, x.f3, x.f4, x.f5, x.f6, x.f7, x.f8, x.f9, x.f10, x.f11))
def nI (x : S28) : Nat → Int := fun j => match j with | 0 => x.f0 | 1 => x.f1 | 2 => x.f2 | 3 => x.f3 | 4 => x.f4 | 5 => x.f5 | 6 => x.f6 | 7 => x.f7 | 8 => x.f8 | _ => x.f9
def nS (x : S28) (j : Nat) : ByteArray := if j = 10 then x.f10 else x.f11
def enc (x : S28) (j : Nat) : PS := if j < 10 then .int .i64 (nI x j) else if j < 12 then .str (nS x j) else .nilp
def zer : S28 := ⟨0, 0, 0, 0, 0, 0, 0, 0, 0, 0, emp, emp⟩
theorem enc_ok {w : World} {F : Nat → Prop} (p : S28) (c : List Value) (hK : k28.K w p c) (j : Nat) (hj : j < 12) : ∃ u, c[j]? = some u ∧ RF w F (enc p j) u := by
  obtain ⟨_, _, rfl, rfl, _, _, rfl, rfl, _, _, rfl, rfl, _, _, rfl, rfl, _, _, rfl, rfl, _, _, rfl, rfl, _, _, rfl, rfl, _, _, rfl, rfl, _, _, rfl, rfl, _, _, rfl, rfl, _, _, rfl, rfl, rfl⟩ := hK
  rcases (by omega : j = 0 ∨ j = 1 ∨ j = 2 ∨ j = 3 ∨ j = 4 ∨ j = 5 ∨ j = 6 ∨ j = 7 ∨ j = 8 ∨ j = 9 ∨ j = 10 ∨ j = 11) with rfl | rfl | rfl | rfl | rfl | rfl | rfl | rfl | rfl | rfl | rfl | rfl <;> exact ⟨_, rfl, by constructor⟩
def rowOf (l : List S28) : Nat → Nat → PS := fun i j => enc (l.getD i zer) j
theorem rowOf_rw (l : List S28) : rowOf l = rwj (fun i => nI (l.getD i zer)) (fun i => nS (l.getD i zer)) (fun _ _ => .nilp) := rfl
theorem gl_ok (w : World) : okG w (fun b => b < w.heap.size) gl := fun g s h => by cases h
def ck_MasterKeepsOwn.f (_ _ : List S28) (_ : ByteArray) : Option Bool := some true
theorem ck_MasterKeepsOwn.calls (A0 : Option Addr) (c0 : Nat) (l0 : List S28) (A1 : Option Addr) (c1 : Nat) (l1 : List S28) (a2 : ByteArray) (r : Bool) (w : World) (hr0 : Kd.C k28 w A0 l0.length l0) (hc0 : l0.length ≤ c0) (hr1 : Kd.C k28 w A1 l1.length l1) (hc1 : l1.length ≤ c1) (h : ck_MasterKeepsOwn.f l0 l1 a2 = some r) :
    Calls prog 3 #[.slice A0 l0.length c0, .slice A1 l1.length c1, .string a2] w (fun e w' => e = .returned (.bool r) ∧ Below w.heap.size w w') := by
  obtain rfl := Option.some.inj h
  have hview : ∀ {A : Option Addr} {c : Nat} {l : List S28}, Kd.C k28 w A l.length l → l.length ≤ c → RF w (fun b => b < w.heap.size) (.view l.length 12 (rowOf l)) (.slice A l.length c) := fun hr hc => view_of_row zer enc (fun _ h => h) (by omega) hc hr (fun p c _ hK _ j hj => enc_ok p c hK j hj)
  have hM : Sound prog gl (upM (callF prog gl DL 12 O20)) := callF_ok sO20 mo 12
  have hans : upM (callF prog gl DL 12 O20) 0 3 [.one (.view l0.length 12 (rowOf l0)), .one (.view l1.length 12 (rowOf l1)), .one (.str a2)] [] = some (true, bl true, []) := by
    unfold upM
    rw [rowOf_rw, rowOf_rw, mk_eq]
    rfl
  exact calls_of hM hans (u0 := .bool true) rfl (gl_ok w) (.cons ⟨hview hr0 hc0, rfl⟩ (.cons ⟨hview hr1 hc1, rfl⟩ (.cons ⟨.str a2, rfl⟩ .nil)))
end Go.Proofs.Ytobfnncpjkeloaa.QEvMK
