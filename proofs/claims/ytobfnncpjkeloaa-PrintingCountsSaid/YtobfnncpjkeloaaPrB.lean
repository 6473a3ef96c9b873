import Derived.Test.YtobfnncpjkeloaaPrA
namespace Go.Proofs.Ytobfnncpjkeloaa.Sh
open Go Go.RowKit Go.Proofs.Ytobfnncpjkeloaa.Ev Go.Proofs.Try
set_option maxRecDepth 100000
set_option linter.unusedVariables false
/-! Several -/
noncomputable def DF : FuncId → PV := fun f => if f = 1000000 + 58 then .agg [] else i64 0
abbrev pSv : List Bool := [true, true, true, true, false, true, false]
noncomputable abbrev ySv (fl : Nat) : En → Heap → (Exit → En → Heap → Option (PV × Heap)) → Option (PV × Heap) := bodyAt prog gl O3 DF f22 4 0 fl pSv
noncomputable abbrev kSv (fl : Nat) := kAt prog gl O3 DF f22 4 0 fl pSv
theorem sv_pre (fl n r c : Nat) (row : Nat → Nat → PS) (dn : Bool) : callF prog gl DF fl O3 0 22 [vi n row, i64 r, i64 c, bl dn] [] = (if (q_dec (q_ckP n row)) = true then (if (bif bif bif decide ((↑r : Int) < (1 : Int)) then true else decide ((↑r : Int) > (8 : Int)) then true else decide ((↑c : Int) < (1 : Int)) then true else decide ((↑c : Int) > (8 : Int))) = true then (some ((PV.tup [PV.one PS.nils, i64 ((2 : Int))], []))) else (rounds (ySv fl) (kSv fl) fl ([((36 : Nat), none, i64 ((0 : Int))), ((35 : Nat), none, i64 ((↑n : Int))), ((34 : Nat), none, PV.one (PS.view n (1 : Nat) row)), ((11 : Nat), none, PV.one PS.nils), ((10 : Nat), none, i64 ((0 : Int))), ((9 : Nat), none, i64 ((0 : Int))), ((8 : Nat), none, PV.one PS.nils), ((0 : Nat), none, PV.one (PS.view n (1 : Nat) row)), ((1 : Nat), none, i64 ((↑r : Int))), ((2 : Nat), none, i64 ((↑c : Int))), ((3 : Nat), none, PV.one (PS.bool dn))]) ([]))) else none) := by kernel_rfl
abbrev hSv (n r c : Nat) (row : Nat → Nat → PS) (dn : Bool) (s : PS) (k : Int) : En := [(36, none, i64 k), (35, none, i64 n), (34, none, vi n row), (11, none, .one s), (10, none, i64 0), (9, none, i64 0), (8, none, .one .nils), (0, none, vi n row), (1, none, i64 r), (2, none, i64 c), (3, none, bl dn)]
theorem sv_one (fl mm n r c : Nat) (B : Nat → Nat → Int) (J : Nat → Nat → PS) (dn : Bool) : rounds (ySv fl) (kSv fl) (mm + 1) (hSv n r c (rj 1 B J) dn .nils 0) [] = (if (decide ((0 : Int) < (↑n : Int))) = true then (chk true (true && decide ((0 : Int) < (↑n : Int))) (chk true (W ((↑r : Int) * (↑c : Int)) != (0 : Int)) (if (Int.tmod (0 : Int) (W ((↑r : Int) * (↑c : Int))) == (0 : Int)) = true then (if (decide ((0 : Int) ≤ W ((↑r : Int) * (↑c : Int))) && (decide ((W ((↑r : Int) * (↑c : Int))).toNat ≤ (9223372036854775807 : Nat)) && decide ((8 : Nat) * (W ((↑r : Int) * (↑c : Int))).toNat ≤ (281474976710656 : Nat)))) = true then (if (decide ((0 : Nat) < (W ((↑r : Int) * (↑c : Int))).toNat)) = true then (if (dn) = true then (chk true ((↑r : Int) != (0 : Int)) (chk true ((↑r : Int) != (0 : Int)) (chk true (decide ((0 : Int) ≤ W (W ((Int.tmod (0 : Int) (W ((↑r : Int) * (↑c : Int)))).tmod (↑r : Int) * (↑c : Int)) + W ((Int.tmod (0 : Int) (W ((↑r : Int) * (↑c : Int)))).tdiv (↑r : Int)))) && decide (W (W ((Int.tmod (0 : Int) (W ((↑r : Int) * (↑c : Int)))).tmod (↑r : Int) * (↑c : Int)) + W ((Int.tmod (0 : Int) (W ((↑r : Int) * (↑c : Int)))).tdiv (↑r : Int))) < (↑(W ((↑r : Int) * (↑c : Int))).toNat : Int))) (if (decide ((W (W ((Int.tmod (0 : Int) (W ((↑r : Int) * (↑c : Int)))).tmod (↑r : Int) * (↑c : Int)) + W ((Int.tmod (0 : Int) (W ((↑r : Int) * (↑c : Int)))).tdiv (↑r : Int)))).toNat < (W ((↑r : Int) * (↑c : Int))).toNat)) = true then (rounds (ySv fl) (kSv fl) mm ([((36 : Nat), none, i64 ((1 : Int))), ((35 : Nat), none, i64 ((↑n : Int))), ((34 : Nat), none, PV.one (PS.view n (1 : Nat) (rj (1 : Nat) B J))), ((11 : Nat), none, PV.one (PS.os (54 : Nat))), ((10 : Nat), none, i64 ((0 : Int))), ((9 : Nat), none, i64 ((0 : Int))), ((8 : Nat), none, PV.one PS.nils), ((0 : Nat), none, PV.one (PS.view n (1 : Nat) (rj (1 : Nat) B J))), ((1 : Nat), none, i64 ((↑r : Int))), ((2 : Nat), none, i64 ((↑c : Int))), ((3 : Nat), none, PV.one (PS.bool dn))]) ([((54 : Nat), OB.out (35 : Nat) (1 : Nat) (97 : Nat) none), ((97 : Nat), OB.inn (3 : Nat) (1 : Nat) (1 : Nat) (fun j ↦ true) (fun j ↦ (W ((↑r : Int) * (↑c : Int))).toNat) fun j ↦ bif j == (0 : Nat) then putRow (fun x j ↦ [PS.int IntKind.i64 (0 : Int)].getD j PS.nilp) (W (W ((Int.tmod (0 : Int) (W ((↑r : Int) * (↑c : Int)))).tmod (↑r : Int) * (↑c : Int)) + W ((Int.tmod (0 : Int) (W ((↑r : Int) * (↑c : Int)))).tdiv (↑r : Int)))).toNat (0 : Nat) [PS.int IntKind.i64 (B (0 : Nat) (0 : Nat))] else fun x j ↦ [PS.int IntKind.i64 (0 : Int)].getD j PS.nilp)])) else none)))) else (chk true (decide ((0 : Int) ≤ Int.tmod (0 : Int) (W ((↑r : Int) * (↑c : Int)))) && decide (Int.tmod (0 : Int) (W ((↑r : Int) * (↑c : Int))) < (↑(W ((↑r : Int) * (↑c : Int))).toNat : Int))) (if (decide ((Int.tmod (0 : Int) (W ((↑r : Int) * (↑c : Int)))).toNat < (W ((↑r : Int) * (↑c : Int))).toNat)) = true then (rounds (ySv fl) (kSv fl) mm ([((36 : Nat), none, i64 ((1 : Int))), ((35 : Nat), none, i64 ((↑n : Int))), ((34 : Nat), none, PV.one (PS.view n (1 : Nat) (rj (1 : Nat) B J))), ((11 : Nat), none, PV.one (PS.os (54 : Nat))), ((10 : Nat), none, i64 ((0 : Int))), ((9 : Nat), none, i64 ((0 : Int))), ((8 : Nat), none, PV.one PS.nils), ((0 : Nat), none, PV.one (PS.view n (1 : Nat) (rj (1 : Nat) B J))), ((1 : Nat), none, i64 ((↑r : Int))), ((2 : Nat), none, i64 ((↑c : Int))), ((3 : Nat), none, PV.one (PS.bool dn))]) ([((54 : Nat), OB.out (35 : Nat) (1 : Nat) (97 : Nat) none), ((97 : Nat), OB.inn (3 : Nat) (1 : Nat) (1 : Nat) (fun j ↦ true) (fun j ↦ (W ((↑r : Int) * (↑c : Int))).toNat) fun j ↦ bif j == (0 : Nat) then putRow (fun x j ↦ [PS.int IntKind.i64 (0 : Int)].getD j PS.nilp) (Int.tmod (0 : Int) (W ((↑r : Int) * (↑c : Int)))).toNat (0 : Nat) [PS.int IntKind.i64 (B (0 : Nat) (0 : Nat))] else fun x j ↦ [PS.int IntKind.i64 (0 : Int)].getD j PS.nilp)])) else none))) else none) else none) else (if (dn) = true then (chk true ((↑r : Int) != (0 : Int)) (chk true ((↑r : Int) != (0 : Int)) none)) else none)))) else (some ((PV.tup [PV.one PS.nils, i64 ((0 : Int))], [])))) := by kernel_rfl
theorem sv_st (fl mm n r c m : Nat) (B : Nat → Nat → Int) (J : Nat → Nat → PS) (dn : Bool) (k : Int) (st : Nat → Bool) (len : Nat → Nat) (R : Nat → Nat → Nat → PS) : rounds (ySv fl) (kSv fl) (mm + 1) (hSv n r c (rj 1 B J) dn (.os 54) k) [(54, .out 35 m 97 none), (97, .inn 3 1 m st len R)] = (if (decide (k < (↑n : Int))) = true then (chk true (decide ((0 : Int) ≤ k) && decide (k < (↑n : Int))) (chk true (W ((↑r : Int) * (↑c : Int)) != (0 : Int)) (if (k.tmod (W ((↑r : Int) * (↑c : Int))) == (0 : Int)) = true then (if (decide ((0 : Int) ≤ W ((↑r : Int) * (↑c : Int))) && (decide ((W ((↑r : Int) * (↑c : Int))).toNat ≤ (9223372036854775807 : Nat)) && decide ((8 : Nat) * (W ((↑r : Int) * (↑c : Int))).toNat ≤ (281474976710656 : Nat)))) = true then (if (decide ((0 : Nat) < (W ((↑r : Int) * (↑c : Int))).toNat)) = true then (if (true && (decide (m + (1 : Nat) ≤ (9223372036854775807 : Nat)) && decide ((m + (1 : Nat)) * (24 : Nat) ≤ (140737488355328 : Nat)))) = true then (if (dn) = true then (chk true ((↑r : Int) != (0 : Int)) (chk true ((↑r : Int) != (0 : Int)) (chk true (decide ((0 : Int) ≤ W ((↑(m + (1 : Nat)) : Int) - (1 : Int))) && decide (W ((↑(m + (1 : Nat)) : Int) - (1 : Int)) < (↑(m + (1 : Nat)) : Int))) (chk true (decide ((W ((↑(m + (1 : Nat)) : Int) - (1 : Int))).toNat < m + (1 : Nat)) && (true && true)) (chk true (decide ((0 : Int) ≤ W (W ((k.tmod (W ((↑r : Int) * (↑c : Int)))).tmod (↑r : Int) * (↑c : Int)) + W ((k.tmod (W ((↑r : Int) * (↑c : Int)))).tdiv (↑r : Int)))) && decide (W (W ((k.tmod (W ((↑r : Int) * (↑c : Int)))).tmod (↑r : Int) * (↑c : Int)) + W ((k.tmod (W ((↑r : Int) * (↑c : Int)))).tdiv (↑r : Int))) < (↑(bif decide ((W ((↑(m + (1 : Nat)) : Int) - (1 : Int))).toNat < m) then len (W ((↑(m + (1 : Nat)) : Int) - (1 : Int))).toNat else (W ((↑r : Int) * (↑c : Int))).toNat) : Int))) (if (decide ((W (W ((k.tmod (W ((↑r : Int) * (↑c : Int)))).tmod (↑r : Int) * (↑c : Int)) + W ((k.tmod (W ((↑r : Int) * (↑c : Int)))).tdiv (↑r : Int)))).toNat < bif decide ((W ((↑(m + (1 : Nat)) : Int) - (1 : Int))).toNat < m) then len (W ((↑(m + (1 : Nat)) : Int) - (1 : Int))).toNat else (W ((↑r : Int) * (↑c : Int))).toNat)) = true then (rounds (ySv fl) (kSv fl) mm ([((36 : Nat), none, i64 ((W (k + (1 : Int))))), ((35 : Nat), none, i64 ((↑n : Int))), ((34 : Nat), none, PV.one (PS.view n (1 : Nat) (rj (1 : Nat) B J))), ((11 : Nat), none, PV.one (PS.os (54 : Nat))), ((10 : Nat), none, i64 ((0 : Int))), ((9 : Nat), none, i64 ((0 : Int))), ((8 : Nat), none, PV.one PS.nils), ((0 : Nat), none, PV.one (PS.view n (1 : Nat) (rj (1 : Nat) B J))), ((1 : Nat), none, i64 ((↑r : Int))), ((2 : Nat), none, i64 ((↑c : Int))), ((3 : Nat), none, PV.one (PS.bool dn))]) ([((54 : Nat), OB.out (35 : Nat) (m + (1 : Nat)) (97 : Nat) none), ((97 : Nat), OB.inn (3 : Nat) (1 : Nat) (m + (1 : Nat)) (fun j ↦ bif decide (j < m) then st j else true) (fun j ↦ bif decide (j < m) then len j else (W ((↑r : Int) * (↑c : Int))).toNat) fun j ↦ bif j == (W ((↑(m + (1 : Nat)) : Int) - (1 : Int))).toNat then putRow (bif decide ((W ((↑(m + (1 : Nat)) : Int) - (1 : Int))).toNat < m) then R (W ((↑(m + (1 : Nat)) : Int) - (1 : Int))).toNat else fun x j ↦ [PS.int IntKind.i64 (0 : Int)].getD j PS.nilp) (W (W ((k.tmod (W ((↑r : Int) * (↑c : Int)))).tmod (↑r : Int) * (↑c : Int)) + W ((k.tmod (W ((↑r : Int) * (↑c : Int)))).tdiv (↑r : Int)))).toNat (0 : Nat) [PS.int IntKind.i64 (B k.toNat (0 : Nat))] else bif decide (j < m) then R j else fun x j ↦ [PS.int IntKind.i64 (0 : Int)].getD j PS.nilp)])) else none)))))) else (chk true (decide ((0 : Int) ≤ W ((↑(m + (1 : Nat)) : Int) - (1 : Int))) && decide (W ((↑(m + (1 : Nat)) : Int) - (1 : Int)) < (↑(m + (1 : Nat)) : Int))) (chk true (decide ((W ((↑(m + (1 : Nat)) : Int) - (1 : Int))).toNat < m + (1 : Nat)) && (true && true)) (chk true (decide ((0 : Int) ≤ k.tmod (W ((↑r : Int) * (↑c : Int)))) && decide (k.tmod (W ((↑r : Int) * (↑c : Int))) < (↑(bif decide ((W ((↑(m + (1 : Nat)) : Int) - (1 : Int))).toNat < m) then len (W ((↑(m + (1 : Nat)) : Int) - (1 : Int))).toNat else (W ((↑r : Int) * (↑c : Int))).toNat) : Int))) (if (decide ((k.tmod (W ((↑r : Int) * (↑c : Int)))).toNat < bif decide ((W ((↑(m + (1 : Nat)) : Int) - (1 : Int))).toNat < m) then len (W ((↑(m + (1 : Nat)) : Int) - (1 : Int))).toNat else (W ((↑r : Int) * (↑c : Int))).toNat)) = true then (rounds (ySv fl) (kSv fl) mm ([((36 : Nat), none, i64 ((W (k + (1 : Int))))), ((35 : Nat), none, i64 ((↑n : Int))), ((34 : Nat), none, PV.one (PS.view n (1 : Nat) (rj (1 : Nat) B J))), ((11 : Nat), none, PV.one (PS.os (54 : Nat))), ((10 : Nat), none, i64 ((0 : Int))), ((9 : Nat), none, i64 ((0 : Int))), ((8 : Nat), none, PV.one PS.nils), ((0 : Nat), none, PV.one (PS.view n (1 : Nat) (rj (1 : Nat) B J))), ((1 : Nat), none, i64 ((↑r : Int))), ((2 : Nat), none, i64 ((↑c : Int))), ((3 : Nat), none, PV.one (PS.bool dn))]) ([((54 : Nat), OB.out (35 : Nat) (m + (1 : Nat)) (97 : Nat) none), ((97 : Nat), OB.inn (3 : Nat) (1 : Nat) (m + (1 : Nat)) (fun j ↦ bif decide (j < m) then st j else true) (fun j ↦ bif decide (j < m) then len j else (W ((↑r : Int) * (↑c : Int))).toNat) fun j ↦ bif j == (W ((↑(m + (1 : Nat)) : Int) - (1 : Int))).toNat then putRow (bif decide ((W ((↑(m + (1 : Nat)) : Int) - (1 : Int))).toNat < m) then R (W ((↑(m + (1 : Nat)) : Int) - (1 : Int))).toNat else fun x j ↦ [PS.int IntKind.i64 (0 : Int)].getD j PS.nilp) (k.tmod (W ((↑r : Int) * (↑c : Int)))).toNat (0 : Nat) [PS.int IntKind.i64 (B k.toNat (0 : Nat))] else bif decide (j < m) then R j else fun x j ↦ [PS.int IntKind.i64 (0 : Int)].getD j PS.nilp)])) else none))))) else none) else none) else none) else (if (dn) = true then (chk true ((↑r : Int) != (0 : Int)) (chk true ((↑r : Int) != (0 : Int)) (chk true (decide ((0 : Int) ≤ W ((↑m : Int) - (1 : Int))) && decide (W ((↑m : Int) - (1 : Int)) < (↑m : Int))) (chk true (decide ((W ((↑m : Int) - (1 : Int))).toNat < m) && (true && true)) (chk true (decide ((0 : Int) ≤ W (W ((k.tmod (W ((↑r : Int) * (↑c : Int)))).tmod (↑r : Int) * (↑c : Int)) + W ((k.tmod (W ((↑r : Int) * (↑c : Int)))).tdiv (↑r : Int)))) && decide (W (W ((k.tmod (W ((↑r : Int) * (↑c : Int)))).tmod (↑r : Int) * (↑c : Int)) + W ((k.tmod (W ((↑r : Int) * (↑c : Int)))).tdiv (↑r : Int))) < (↑(len (W ((↑m : Int) - (1 : Int))).toNat) : Int))) (if (decide ((W (W ((k.tmod (W ((↑r : Int) * (↑c : Int)))).tmod (↑r : Int) * (↑c : Int)) + W ((k.tmod (W ((↑r : Int) * (↑c : Int)))).tdiv (↑r : Int)))).toNat < len (W ((↑m : Int) - (1 : Int))).toNat)) = true then (rounds (ySv fl) (kSv fl) mm ([((36 : Nat), none, i64 ((W (k + (1 : Int))))), ((35 : Nat), none, i64 ((↑n : Int))), ((34 : Nat), none, PV.one (PS.view n (1 : Nat) (rj (1 : Nat) B J))), ((11 : Nat), none, PV.one (PS.os (54 : Nat))), ((10 : Nat), none, i64 ((0 : Int))), ((9 : Nat), none, i64 ((0 : Int))), ((8 : Nat), none, PV.one PS.nils), ((0 : Nat), none, PV.one (PS.view n (1 : Nat) (rj (1 : Nat) B J))), ((1 : Nat), none, i64 ((↑r : Int))), ((2 : Nat), none, i64 ((↑c : Int))), ((3 : Nat), none, PV.one (PS.bool dn))]) ([((54 : Nat), OB.out (35 : Nat) m (97 : Nat) none), ((97 : Nat), OB.inn (3 : Nat) (1 : Nat) m st len fun j ↦ bif j == (W ((↑m : Int) - (1 : Int))).toNat then putRow (R (W ((↑m : Int) - (1 : Int))).toNat) (W (W ((k.tmod (W ((↑r : Int) * (↑c : Int)))).tmod (↑r : Int) * (↑c : Int)) + W ((k.tmod (W ((↑r : Int) * (↑c : Int)))).tdiv (↑r : Int)))).toNat (0 : Nat) [PS.int IntKind.i64 (B k.toNat (0 : Nat))] else R j)])) else none)))))) else (chk true (decide ((0 : Int) ≤ W ((↑m : Int) - (1 : Int))) && decide (W ((↑m : Int) - (1 : Int)) < (↑m : Int))) (chk true (decide ((W ((↑m : Int) - (1 : Int))).toNat < m) && (true && true)) (chk true (decide ((0 : Int) ≤ k.tmod (W ((↑r : Int) * (↑c : Int)))) && decide (k.tmod (W ((↑r : Int) * (↑c : Int))) < (↑(len (W ((↑m : Int) - (1 : Int))).toNat) : Int))) (if (decide ((k.tmod (W ((↑r : Int) * (↑c : Int)))).toNat < len (W ((↑m : Int) - (1 : Int))).toNat)) = true then (rounds (ySv fl) (kSv fl) mm ([((36 : Nat), none, i64 ((W (k + (1 : Int))))), ((35 : Nat), none, i64 ((↑n : Int))), ((34 : Nat), none, PV.one (PS.view n (1 : Nat) (rj (1 : Nat) B J))), ((11 : Nat), none, PV.one (PS.os (54 : Nat))), ((10 : Nat), none, i64 ((0 : Int))), ((9 : Nat), none, i64 ((0 : Int))), ((8 : Nat), none, PV.one PS.nils), ((0 : Nat), none, PV.one (PS.view n (1 : Nat) (rj (1 : Nat) B J))), ((1 : Nat), none, i64 ((↑r : Int))), ((2 : Nat), none, i64 ((↑c : Int))), ((3 : Nat), none, PV.one (PS.bool dn))]) ([((54 : Nat), OB.out (35 : Nat) m (97 : Nat) none), ((97 : Nat), OB.inn (3 : Nat) (1 : Nat) m st len fun j ↦ bif j == (W ((↑m : Int) - (1 : Int))).toNat then putRow (R (W ((↑m : Int) - (1 : Int))).toNat) (k.tmod (W ((↑r : Int) * (↑c : Int)))).toNat (0 : Nat) [PS.int IntKind.i64 (B k.toNat (0 : Nat))] else R j)])) else none)))))))) else (some ((PV.tup [PV.one (PS.view m (1 : Nat) fun i x ↦ PS.view (len i) (1 : Nat) (R i)), i64 ((0 : Int))], [])))) := by kernel_rfl
/-- Where the i-th page of a side stands; which page stands there. -/
def q_pl (r c : Nat) (dn : Bool) (i : Nat) : Nat := bif dn then i % r * c + i / r else i
def q_inv (r c : Nat) (dn : Bool) (p : Nat) : Nat := bif dn then p % c * r + p / c else p
theorem pl_facts : ∀ r, r < 5 → ∀ c, c < 5 → ∀ i, i < r * c → ∀ dn, q_pl r c dn i < r * c ∧ q_inv r c dn i < r * c ∧ q_inv r c dn (q_pl r c dn i) = i ∧ q_pl r c dn (q_inv r c dn i) = i := by decide
def q_cell (B : Nat → Int) (r c : Nat) (dn : Bool) (k i p : Nat) : Int := if i * (r * c) + q_inv r c dn p < k then B (i * (r * c) + q_inv r c dn p) else 0
theorem cell_step {B : Nat → Int} {r c : Nat} {dn : Bool} (hr : r < 5) (hc : c < 5) {k i p : Nat} (hp : p < r * c) : q_cell B r c dn (k + 1) i p = if i = k / (r * c) ∧ p = q_pl r c dn (k % (r * c)) then B k else q_cell B r c dn k i p := by
  have h0 : 0 < r * c := by omega
  obtain ⟨_, f2, _, f4⟩ := pl_facts r hr c hc p hp dn
  have hm : k % (r * c) < r * c := Nat.mod_lt _ h0
  obtain ⟨_, _, f7, _⟩ := pl_facts r hr c hc _ hm dn
  unfold q_cell
  by_cases e : i = k / (r * c) ∧ p = q_pl r c dn (k % (r * c))
  · obtain ⟨e1, e2⟩ := e
    have e3 : i * (r * c) + q_inv r c dn p = k := by rw [e1, e2, f7, Nat.mul_comm]; exact Nat.div_add_mod _ _
    have hL : (if i * (r * c) + q_inv r c dn p < k + 1 then B (i * (r * c) + q_inv r c dn p) else 0) = B k := by rw [e3, if_pos (by omega)]
    rw [hL, if_pos ⟨e1, e2⟩]
  · rw [if_neg e]
    have e3 : i * (r * c) + q_inv r c dn p ≠ k := fun h => e (by
      have q1 : k / (r * c) = i := by rw [← h, Nat.mul_comm, Nat.mul_add_div h0, Nat.div_eq_of_lt f2]; omega
      have q2 : k % (r * c) = q_inv r c dn p := by rw [← h, Nat.mul_comm, Nat.mul_add_mod, Nat.mod_eq_of_lt f2]
      exact ⟨q1.symm, by rw [q2, f4]⟩)
    by_cases h : i * (r * c) + q_inv r c dn p < k
    · rw [if_pos h, if_pos (Nat.lt_succ_of_lt h)]
    · rw [if_neg h, if_neg (fun q => by omega)]
def SvI (B : Nat → Int) (r c : Nat) (dn : Bool) (k : Nat) (len : Nat → Nat) (R : Nat → Nat → Nat → PS) : Prop := 1 ≤ k ∧ ∀ i, i < (k - 1) / (r * c) + 1 → len i = r * c ∧ ∃ B' J', R i = rj 1 B' J' ∧ ∀ p, p < r * c → B' p 0 = q_cell B r c dn k i p
abbrev svH (m : Nat) (st : Nat → Bool) (len : Nat → Nat) (R : Nat → Nat → Nat → PS) : Heap := [(54, .out 35 m 97 none), (97, .inn 3 1 m st len R)]
theorem put_up {B : Nat → Int} {r c : Nat} {dn : Bool} (hr : r < 5) (hc : c < 5) {k i : Nat} {B' : Nat → Nat → Int} {J' : Nat → Nat → PS} (h : ∀ p, p < r * c → B' p 0 = q_cell B r c dn k i p) (hi : i = k / (r * c)) : ∃ B2 J2, putRow (rj 1 B' J') (q_pl r c dn (k % (r * c))) 0 [.int .i64 (B k)] = rj 1 B2 J2 ∧ ∀ p, p < r * c → B2 p 0 = q_cell B r c dn (k + 1) i p := by
  refine ⟨_, _, put_rj 1 B' J' _ 0 _ (by omega), fun p hp => ?_⟩
  rw [cell_step hr hc hp]
  unfold putB
  by_cases e : p = q_pl r c dn (k % (r * c))
  · rw [if_pos ⟨e, rfl⟩, if_pos ⟨hi, e⟩]
  · rw [if_neg (fun q => e q.1), if_neg (fun q => e q.2)]
    exact h p hp
abbrev zr : Nat → Nat → PS := fun _ j => [PS.int .i64 0].getD j .nilp
theorem rc16 {r c : Nat} (hr : 1 ≤ r ∧ r < 5) (hc : 1 ≤ c ∧ c < 5) : 0 < r * c ∧ r * c ≤ 16 := ⟨Nat.mul_pos (by omega) (by omega), Nat.le_trans (Nat.mul_le_mul (show r ≤ 4 by omega) (show c ≤ 4 by omega)) (by decide)⟩
theorem pos_dn {r c x : Nat} (hr : 1 ≤ r ∧ r < 5) (hc : 1 ≤ c ∧ c < 5) (hx : x < r * c) : W (W (((x : Nat) : Int).tmod (r : Int) * (c : Int)) + W (((x : Nat) : Int).tdiv (r : Int))) = ((q_pl r c true x : Nat) : Int) := by
  obtain ⟨fp, _⟩ := pl_facts r hr.2 c hc.2 x hx true
  have h16 := (rc16 hr hc).2
  have e1 : q_pl r c true x = x % r * c + x / r := rfl
  rw [e1] at fp ⊢
  have e2 : ((x : Nat) : Int).tmod (r : Int) = ((x % r : Nat) : Int) := by rw [Int.ofNat_tmod]
  rw [e2, ← Int.ofNat_tdiv, ← Int.natCast_mul]
  generalize x % r * c = a at fp ⊢
  generalize x / r = b at fp ⊢
  rw [W_id (n := (a : Int)) (by omega) (by omega), W_id (n := (b : Int)) (by omega) (by omega), W_id (by omega) (by omega)]
  omega
theorem sv_new (fl mm n r c m : Nat) (hr : 1 ≤ r ∧ r < 5) (hc : 1 ≤ c ∧ c < 5) (hn : n ≤ 10000) (B : Nat → Nat → Int) (J : Nat → Nat → PS) (dn : Bool) (k : Nat) (hk : k < n) (hm : m ≤ 20000) (h : k % (r * c) = 0) (st : Nat → Bool) (len : Nat → Nat) (R : Nat → Nat → Nat → PS) :
    ∃ st' len' R', (∀ j, j < m → len' j = len j ∧ R' j = R j) ∧ len' m = r * c ∧ R' m = putRow zr (q_pl r c dn (k % (r * c))) 0 [.int .i64 (B k 0)] ∧ rounds (ySv fl) (kSv fl) (mm + 1) (hSv n r c (rj 1 B J) dn (.os 54) (k : Nat)) (svH m st len R) = rounds (ySv fl) (kSv fl) mm (hSv n r c (rj 1 B J) dn (.os 54) ((k + 1 : Nat) : Int)) (svH (m + 1) st' len' R') := by
  obtain ⟨h0, h16⟩ := rc16 hr hc
  have hmd : k % (r * c) < r * c := Nat.mod_lt _ h0
  obtain ⟨fp, _⟩ := pl_facts r hr.2 c hc.2 _ hmd dn
  have hW1 : W ((r : Int) * (c : Int)) = ((r * c : Nat) : Int) := by rw [← Int.natCast_mul, W_id (by omega) (by omega)]
  have hW2 : (k : Int).tmod ((r * c : Nat) : Int) = ((k % (r * c) : Nat) : Int) := by rw [Int.ofNat_tmod]
  have hW3 : W (((m + 1 : Nat) : Int) - 1) = ((m : Nat) : Int) := by rw [W_id (by omega) (by omega)]; omega
  have hdm : decide (m < m) = false := by simp
  refine ⟨fun j => bif decide (j < m) then st j else true, fun j => bif decide (j < m) then len j else r * c, fun j => bif j == m then putRow zr (q_pl r c dn (k % (r * c))) 0 [PS.int .i64 (B k 0)] else bif decide (j < m) then R j else zr, fun j hj => ⟨by simp [hj], ?_⟩, by simp, by simp, ?_⟩
  · have e : (j == m) = false := by simpa using Nat.ne_of_lt hj
    simp [e, hj]
  · show rounds _ _ _ _ [(54, .out 35 m 97 none), (97, .inn 3 1 m st len R)] = _
    rw [sv_st, if_pos (by simpa using hk), chk_true (inb hk)]
    simp only [hW1, hW2, hW3, Int.toNat_natCast, hdm, cond_false]
    rw [chk_true (by simp; omega), if_pos (by rw [h]; rfl), if_pos (by simp; omega), if_pos (decide_eq_true h0), if_pos (by simp; omega)]
    cases dn
    · rw [if_neg (by simp), chk_true (inb (show m < m + 1 by omega)), chk_true (by simp), chk_true (inb hmd), if_pos (decide_eq_true hmd), W_nat (by omega)]
      rfl
    · simp only [pos_dn hr hc hmd, Int.toNat_natCast]
      rw [if_pos trivial, chk_true (by simp; omega), chk_true (by simp; omega), chk_true (inb (show m < m + 1 by omega)), chk_true (by simp), chk_true (inb fp), if_pos (decide_eq_true fp), W_nat (by omega)]
theorem sv_more (fl mm n r c m : Nat) (hr : 1 ≤ r ∧ r < 5) (hc : 1 ≤ c ∧ c < 5) (hn : n ≤ 10000) (B : Nat → Nat → Int) (J : Nat → Nat → PS) (dn : Bool) (k : Nat) (hk : k < n) (hm : m ≤ 20000) (h : k % (r * c) ≠ 0) (st : Nat → Bool) (len : Nat → Nat) (R : Nat → Nat → Nat → PS) (hl : len m = r * c) :
    ∃ R', (∀ j, j < m → R' j = R j) ∧ R' m = putRow (R m) (q_pl r c dn (k % (r * c))) 0 [.int .i64 (B k 0)] ∧ rounds (ySv fl) (kSv fl) (mm + 1) (hSv n r c (rj 1 B J) dn (.os 54) (k : Nat)) (svH (m + 1) st len R) = rounds (ySv fl) (kSv fl) mm (hSv n r c (rj 1 B J) dn (.os 54) ((k + 1 : Nat) : Int)) (svH (m + 1) st len R') := by
  obtain ⟨h0, h16⟩ := rc16 hr hc
  have hmd : k % (r * c) < r * c := Nat.mod_lt _ h0
  obtain ⟨fp, _⟩ := pl_facts r hr.2 c hc.2 _ hmd dn
  have hW1 : W ((r : Int) * (c : Int)) = ((r * c : Nat) : Int) := by rw [← Int.natCast_mul, W_id (by omega) (by omega)]
  have hW2 : (k : Int).tmod ((r * c : Nat) : Int) = ((k % (r * c) : Nat) : Int) := by rw [Int.ofNat_tmod]
  have hW3 : W (((m + 1 : Nat) : Int) - 1) = ((m : Nat) : Int) := by rw [W_id (by omega) (by omega)]; omega
  refine ⟨fun j => bif j == m then putRow (R m) (q_pl r c dn (k % (r * c))) 0 [PS.int .i64 (B k 0)] else R j, fun j hj => ?_, by simp, ?_⟩
  · have e : (j == m) = false := by simpa using Nat.ne_of_lt hj
    simp [e]
  · show rounds _ _ _ _ [(54, .out 35 (m + 1) 97 none), (97, .inn 3 1 (m + 1) st len R)] = _
    rw [sv_st, if_pos (by simpa using hk), chk_true (inb hk)]
    simp only [hW1, hW2, hW3, Int.toNat_natCast, hl]
    have hne : (((k % (r * c) : Nat) : Int) == 0) = false := by
      generalize k % (r * c) = x at h ⊢
      simpa using h
    rw [chk_true (by simp; omega), if_neg (by rw [hne]; simp)]
    cases dn
    · rw [if_neg (by simp), chk_true (inb (show m < m + 1 by omega)), chk_true (by simp), chk_true (inb hmd), if_pos (decide_eq_true hmd), W_nat (by omega)]
      rfl
    · simp only [pos_dn hr hc hmd, Int.toNat_natCast]
      rw [if_pos trivial, chk_true (by simp; omega), chk_true (by simp; omega), chk_true (inb (show m < m + 1 by omega)), chk_true (by simp), chk_true (inb fp), if_pos (decide_eq_true fp), W_nat (by omega)]
theorem div_pred {k q : Nat} (hq : 0 < q) (hk : 1 ≤ k) : (k % q = 0 → k / q = (k - 1) / q + 1) ∧ (k % q ≠ 0 → k / q = (k - 1) / q) := by
  have h1 := Nat.div_add_mod k q
  have h2 := Nat.mod_lt k hq
  constructor
  · intro h
    have h3 : 0 < k / q := Nat.div_pos (by
      rcases Nat.lt_or_ge k q with c | c
      · rw [Nat.mod_eq_of_lt c] at h; omega
      · exact c) hq
    obtain ⟨d, hd⟩ : ∃ d, k / q = d + 1 := ⟨k / q - 1, by omega⟩
    rw [hd, Nat.mul_add, Nat.mul_one] at h1
    rw [hd, show k - 1 = q * d + (q - 1) by omega, Nat.mul_add_div hq, Nat.div_eq_of_lt (by omega)]
  · intro h
    generalize k / q = d at *
    rw [show k - 1 = q * d + (k % q - 1) by omega, Nat.mul_add_div hq, Nat.div_eq_of_lt (by omega)]
    exact (Nat.add_zero d).symm
theorem sv_step (fl mm n r c : Nat) (hr : 1 ≤ r ∧ r < 5) (hc : 1 ≤ c ∧ c < 5) (hn : n ≤ 10000) (B : Nat → Nat → Int) (J : Nat → Nat → PS) (dn : Bool) (k : Nat) (hk : k < n) (st : Nat → Bool) (len : Nat → Nat) (R : Nat → Nat → Nat → PS) (hI : SvI (fun i => B i 0) r c dn k len R) :
    ∃ st' len' R', SvI (fun i => B i 0) r c dn (k + 1) len' R' ∧ rounds (ySv fl) (kSv fl) (mm + 1) (hSv n r c (rj 1 B J) dn (.os 54) (k : Nat)) (svH ((k - 1) / (r * c) + 1) st len R) = rounds (ySv fl) (kSv fl) mm (hSv n r c (rj 1 B J) dn (.os 54) ((k + 1 : Nat) : Int)) (svH ((k + 1 - 1) / (r * c) + 1) st' len' R') := by
  obtain ⟨hk1, hI⟩ := hI
  obtain ⟨h0, h16⟩ := rc16 hr hc
  have hmk : (k - 1) / (r * c) ≤ k - 1 := Nat.div_le_self _ _
  obtain ⟨d1, d2⟩ := div_pred h0 hk1
  have keep : ∀ i, i ≠ k / (r * c) → ∀ p, p < r * c → q_cell (fun i => B i 0) r c dn (k + 1) i p = q_cell (fun i => B i 0) r c dn k i p := fun i hi p hp => by
    rw [cell_step hr.2 hc.2 hp, if_neg (fun q => hi q.1)]
  show ∃ st' len' R', SvI (fun i => B i 0) r c dn (k + 1) len' R' ∧ _ = rounds (ySv fl) (kSv fl) mm _ (svH (k / (r * c) + 1) st' len' R')
  by_cases h : k % (r * c) = 0
  · have e0 := d1 h
    obtain ⟨B2, J2, e2, e3⟩ := put_up (B := fun i => B i 0) (dn := dn) hr.2 hc.2 (k := k) (i := k / (r * c)) (B' := fun _ _ => 0) (J' := fun _ _ => .nilp) (fun p hp => by
      unfold q_cell
      rw [if_neg]
      intro q
      have h1 := Nat.div_add_mod k (r * c)
      rw [Nat.mul_comm] at h1
      generalize k / (r * c) * (r * c) = y at *
      omega) rfl
    rw [← zero_rj] at e2
    obtain ⟨st', len', R', q1, q2, q3, q4⟩ := sv_new fl mm n r c ((k - 1) / (r * c) + 1) hr hc hn B J dn k hk (by omega) h st len R
    refine ⟨st', len', R', ⟨by omega, fun i hi => ?_⟩, by rw [e0]; exact q4⟩
    have hi' : i < k / (r * c) + 1 := hi
    by_cases e : i = k / (r * c)
    · rw [e]
      rw [← e0] at q2 q3
      exact ⟨q2, B2, J2, q3.trans e2, e3⟩
    · obtain ⟨a1, a2⟩ := q1 i (by omega)
      obtain ⟨a3, B', J', a4, a5⟩ := hI i (by omega)
      exact ⟨a1.trans a3, B', J', a2.trans a4, fun p hp => (a5 p hp).trans (keep i e p hp).symm⟩
  · have e0 := d2 h
    obtain ⟨c1, B1, J1, c2, c3⟩ := hI ((k - 1) / (r * c)) (by omega)
    obtain ⟨B2, J2, e2, e3⟩ := put_up (B := fun i => B i 0) (dn := dn) hr.2 hc.2 c3 e0.symm
    obtain ⟨R', q1, q2, q3⟩ := sv_more fl mm n r c ((k - 1) / (r * c)) hr hc hn B J dn k hk (by omega) h st len R c1
    refine ⟨st, len, R', ⟨by omega, fun i hi => ?_⟩, by rw [e0]; exact q3⟩
    have hi' : i < k / (r * c) + 1 := hi
    by_cases e : i = k / (r * c)
    · rw [e, e0]
      exact ⟨c1, B2, J2, by rw [q2, c2]; exact e2, e3⟩
    · obtain ⟨a3, B', J', a4, a5⟩ := hI i (by omega)
      exact ⟨a3, B', J', (q1 i (by omega)).trans a4, fun p hp => (a5 p hp).trans (keep i e p hp).symm⟩
theorem sv_first (fl mm n r c : Nat) (hr : 1 ≤ r ∧ r < 5) (hc : 1 ≤ c ∧ c < 5) (hn : 0 < n) (B : Nat → Nat → Int) (J : Nat → Nat → PS) (dn : Bool) :
    ∃ st len R, SvI (fun i => B i 0) r c dn 1 len R ∧ rounds (ySv fl) (kSv fl) (mm + 1) (hSv n r c (rj 1 B J) dn .nils 0) [] = rounds (ySv fl) (kSv fl) mm (hSv n r c (rj 1 B J) dn (.os 54) ((1 : Nat) : Int)) (svH 1 st len R) := by
  obtain ⟨h0, h16⟩ := rc16 hr hc
  obtain ⟨fp, _⟩ := pl_facts r hr.2 c hc.2 0 h0 dn
  have hW1 : W ((r : Int) * (c : Int)) = ((r * c : Nat) : Int) := by rw [← Int.natCast_mul, W_id (by omega) (by omega)]
  have hW2 : Int.tmod 0 ((r * c : Nat) : Int) = ((0 : Nat) : Int) := by simp
  obtain ⟨B2, J2, e2, e3⟩ := put_up (B := fun i => B i 0) (dn := dn) hr.2 hc.2 (k := 0) (i := 0 / (r * c)) (B' := fun _ _ => 0) (J' := fun _ _ => .nilp) (fun p hp => by
    unfold q_cell
    rw [if_neg (Nat.not_lt_zero _)]) rfl
  rw [← zero_rj, Nat.zero_mod] at e2
  refine ⟨fun _ => true, fun _ => r * c, fun j => bif j == 0 then putRow zr (q_pl r c dn 0) 0 [PS.int .i64 (B 0 0)] else zr, ⟨by omega, fun i hi => ?_⟩, ?_⟩
  · obtain rfl : i = 0 := by rw [Nat.sub_self, Nat.zero_div] at hi; omega
    refine ⟨rfl, B2, J2, e2, fun p hp => ?_⟩
    rw [Nat.zero_div] at e3
    exact e3 p hp
  · rw [sv_one, if_pos (by simpa using hn), chk_true (by simpa using hn)]
    simp only [hW1, hW2, Int.toNat_natCast]
    rw [chk_true (by simp; omega), if_pos (by rfl), if_pos (by simp; omega), if_pos (decide_eq_true h0)]
    cases dn
    · rw [if_neg (by simp), chk_true (inb h0), if_pos (decide_eq_true h0)]
      rfl
    · simp only [pos_dn hr hc h0, Int.toNat_natCast]
      rw [if_pos trivial, chk_true (by simp; omega), chk_true (by simp; omega), chk_true (inb fp), if_pos (decide_eq_true fp)]
      rfl
/-- The pages of a side. -/
def q_side (l : List Int) (r c : Nat) (dn : Bool) (i : Nat) : List Int := (List.range (r * c)).map fun p => q_cell (fun q => l.getD q 0) r c dn l.length i p
def q_ns (n rc : Nat) : Nat := (n + rc - 1) / rc
theorem ns_pos {n q : Nat} (hq : 0 < q) (hn : 0 < n) : q_ns n q = (n - 1) / q + 1 := by
  unfold q_ns
  rw [show n + q - 1 = n - 1 + q by omega, Nat.add_div_right _ hq]
theorem ns_zero {q : Nat} (hq : 0 < q) : q_ns 0 q = 0 := by
  unfold q_ns
  exact Nat.div_eq_of_lt (by omega)
theorem sv_eq (n r c : Nat) (hr : 1 ≤ r ∧ r < 5) (hc : 1 ≤ c ∧ c < 5) (hn : n ≤ 10000) (B : Nat → Nat → Int) (J : Nat → Nat → PS) (dn : Bool) (hck : q_ckP n (rj 1 B J)) : (n = 0 ∧ callF prog gl DF (n + 2) O3 0 22 [vi n (rj 1 B J), i64 r, i64 c, bl dn] [] = some (.tup [.one .nils, i64 0], [])) ∨ (0 < n ∧ ∃ len R, callF prog gl DF (n + 2) O3 0 22 [vi n (rj 1 B J), i64 r, i64 c, bl dn] [] = some (.tup [.one (.view (q_ns n (r * c)) 1 (fun i _ => .view (len i) 1 (R i))), i64 0], []) ∧ SvI (fun i => B i 0) r c dn n len R) := by
  obtain ⟨h0, h16⟩ := rc16 hr hc
  rw [sv_pre, if_pos (q_dec_iff.2 hck), if_neg (by simp <;> omega)]
  by_cases hn0 : n = 0
  · left
    subst hn0
    refine ⟨rfl, ?_⟩
    refine (sv_one 2 1 0 r c B J dn).trans ?_
    rw [if_neg (by simp)]
  · right
    have hn0 : 0 < n := by omega
    refine ⟨hn0, ?_⟩
    obtain ⟨st, len, R, i1, i2⟩ := sv_first (n + 2) (n + 1) n r c hr hc hn0 B J dn
    rw [ns_pos h0 hn0]
    refine (congrArg (fun z => ∃ len R, z = some (PV.tup [.one (.view ((n - 1) / (r * c) + 1) 1 (fun i _ => .view (len i) 1 (R i))), i64 0], []) ∧ SvI (fun i => B i 0) r c dn n len R) i2).mpr ?_
    have := loop_ex (body := ySv (n + 2)) (K := kSv (n + 2)) (σ := (Nat → Bool) × (Nat → Nat) × (Nat → Nat → Nat → PS)) (fun k _ => hSv n r c (rj 1 B J) dn (.os 54) ((k : Nat) : Int)) (fun k s => svH ((k - 1) / (r * c) + 1) s.1 s.2.1 s.2.2) (fun k s => SvI (fun i => B i 0) r c dn k s.2.1 s.2.2) n
      (Z := fun x => ∃ len R, x = some (PV.tup [.one (.view ((n - 1) / (r * c) + 1) 1 (fun i _ => .view (len i) 1 (R i))), i64 0], []) ∧ SvI (fun i => B i 0) r c dn n len R) (fun k s mm hk hI => by
        obtain ⟨st', len', R', a1, a2⟩ := sv_step (n + 2) mm n r c hr hc hn B J dn k hk s.1 s.2.1 s.2.2 hI
        exact ⟨(st', len', R'), a1, a2⟩) (fun s mm hI => ⟨s.2.1, s.2.2, by
        show rounds _ _ _ _ [(54, .out 35 ((n - 1) / (r * c) + 1) 97 none), (97, .inn 3 1 ((n - 1) / (r * c) + 1) s.1 s.2.1 s.2.2)] = _
        rw [sv_st, if_neg (by simp)], hI⟩) (n + 1) 1 (st, len, R) (by omega) (by omega) i1
    rwa [Nat.sub_self, Nat.zero_div] at this
def q_svP (n : Nat) (row : Nat → Nat → PS) (r c : Int) : Prop := q_ckP n row ∧ (1 ≤ r ∧ r < 5) ∧ 1 ≤ c ∧ c < 5
noncomputable def O4 : Orac := addM 22 (fun nb vs H => match nb, H with
  | 0, [] => ((fun vs => match vs with
    | [.one (.view n 1 row), .one (.int .i64 r), .one (.int .i64 c), .one (.bool dn)] => some (q_dec (q_svP n row r c), .tup [.one (.view (q_ns n (r.toNat * c.toNat)) 1 (fun i _ => .view (r.toNat * c.toNat) 1 (ri (q_side (q_li n row) r.toNat c.toNat dn i)))), i64 0])
    | _ => none : List PV → Option (Bool × PV)) vs).map (fun r => (r.1, r.2, []))
  | _, _ => none) O3
theorem sO4 : Sound prog gl O4 := add_fz (D := DF) sO3 sO3 mo (fun vs v h => by
  split at h
  · rename_i n row r c dn
    obtain ⟨h1, h2⟩ := Prod.mk.inj (Option.some.inj h)
    subst h2
    obtain ⟨hck, hr, hc⟩ := q_dec_iff.1 h1
    obtain ⟨B, J, rfl⟩ := hck.1
    obtain ⟨r, rfl⟩ := Int.eq_ofNat_of_zero_le (show 0 ≤ r by omega)
    obtain ⟨c, rfl⟩ := Int.eq_ofNat_of_zero_le (show 0 ≤ c by omega)
    have hr' : 1 ≤ r ∧ r < 5 := by omega
    have hc' : 1 ≤ c ∧ c < 5 := by omega
    have h0 := (rc16 hr' hc').1
    rw [Int.toNat_natCast, Int.toNat_natCast]
    rcases sv_eq n r c hr' hc' hck.2.1 B J dn hck with ⟨rfl, e1⟩ | ⟨hn, len, R, e1, e2⟩
    · refine ⟨_, _, _, e1, ?_, rfl⟩
      rw [ns_zero h0]
      exact .cons (.none 1 _) (.cons (.refl _) .nil)
    · refine ⟨_, _, _, e1, .cons (.view fun i j hi hj => ?_) (.cons (.refl _) .nil), rfl⟩
      rw [ns_pos h0 hn] at hi
      obtain ⟨f1, B', J', f2, f3⟩ := e2.2 i hi
      rw [f1, f2]
      refine .view (li_of (by simp [q_side]) (fun p hp => ?_))
      rw [f3 p hp, List.getD_eq_getElem?_getD]
      unfold q_side
      rw [List.getElem?_map, List.getElem?_range hp, li_len]
      show q_cell (fun i => B i 0) r c dn n i p = q_cell (fun q => (q_li n (rj 1 B J)).getD q 0) r c dn n i p
      unfold q_cell
      by_cases hq : i * (r * c) + q_inv r c dn p < n
      · rw [if_pos hq, if_pos hq]
        exact (li_rj hq).symm
      · rw [if_neg hq, if_neg hq]
  · cases h)
end Go.Proofs.Ytobfnncpjkeloaa.Sh
