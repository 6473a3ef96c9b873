import Derived.Test.YtobfnncpjkeloaaMsH
namespace Go.Proofs.Ytobfnncpjkeloaa.Sh
open Go Go.RowKit Go.Proofs.Ytobfnncpjkeloaa.Ev Go.Proofs.Try
set_option maxRecDepth 1000000
set_option linter.unusedVariables false
/-! Missing -/
theorem ck_nil  : callF prog gl noD 1 O7 0 24 [.one .nils] [] = (some ((i64 ((0 : Int)), []))) := by kernel_rfl
noncomputable def O16 : Orac := addN 24 (fun nb vs H => match nb, vs, H with
  | 0, [.one .nils], [] => some (true, i64 0, [])
  | _, _, _ => none) O15
theorem sO16 : Sound prog gl O16 := addN_ok sO15 <| add_ok (D := noD) sO15 sO7 mo (fun nb vs H v H' h => by
  split at h
  · obtain ⟨h1, h2⟩ : i64 0 = v ∧ [] = H' := by simpa using h
    subst h1 h2
    exact ⟨1, ck_nil⟩
  · cases h)
abbrev mi (u : PS → Int) : PS → PS := fun x => .int .i64 (u x)
abbrev pM1 : List Bool := [true, true, true, true, false, true, false]
abbrev pM2 : List Bool := [true, true, true, true, true, true, false, true, false]
noncomputable abbrev yMi (fl : Nat) (p : List Bool) : En → Heap → (Exit → En → Heap → Option (PV × Heap)) → Option (PV × Heap) := bodyAt prog gl O16 DS f8 2 0 fl p
noncomputable abbrev kMi (fl : Nat) (p : List Bool) := kAt prog gl O16 DS f8 2 0 fl p
abbrev sv (n : Nat) (row : Nat → Nat → PS) : PV := .one (.view n 12 row)
abbrev hM1 (n m : Nat) (row row2 : Nat → Nat → PS) (a b : Int) (i : Int) : En := [(27, none, i64 i), (26, none, i64 n), (25, none, sv n row), (8, none, .one (.os 24)), (7, none, i64 a), (6, none, i64 b), (5, none, i64 0), (4, none, .one .nils), (0, none, sv n row), (1, none, sv m row2)]
theorem mi_pre (fl n m : Nat) (row row2 : Nat → Nat → PS) : callF prog gl DS fl O16 0 8 [sv n row, sv m row2] [] = (if (q_dec (q_isRw row ∧ n ≤ (100000 : Nat))) = true then (if (q_chk n (q_nu n row) != (0 : Int)) = true then (some ((PV.tup [PV.one PS.nils, i64 ((q_chk n (q_nu n row)))], []))) else (if (q_dec (q_isRw row2 ∧ m ≤ (100000 : Nat))) = true then (if (q_chk m (q_nu m row2) != (0 : Int)) = true then (some ((PV.tup [PV.one PS.nils, i64 ((q_chk m (q_nu m row2)))], []))) else (rounds (yMi fl pM1) (kMi fl pM1) fl ([((27 : Nat), none, i64 ((0 : Int))), ((26 : Nat), none, i64 ((↑n : Int))), ((25 : Nat), none, PV.one (PS.view n (12 : Nat) row)), ((8 : Nat), none, PV.one (PS.os (24 : Nat))), ((7 : Nat), none, i64 ((q_chk m (q_nu m row2)))), ((6 : Nat), none, i64 ((q_chk n (q_nu n row)))), ((5 : Nat), none, i64 ((0 : Int))), ((4 : Nat), none, PV.one PS.nils), ((0 : Nat), none, PV.one (PS.view n (12 : Nat) row)), ((1 : Nat), none, PV.one (PS.view m (12 : Nat) row2))]) ([((24 : Nat), OB.mp false true fun x ↦ PS.int IntKind.i64 (0 : Int))]))) else none)) else none) := by kernel_rfl
theorem m1_st (fl mm n m : Nat) (g : Nat → Nat → Int) (sx : Nat → Nat → ByteArray) (jx : Nat → Nat → PS) (row2 : Nat → Nat → PS) (a b i : Int) (u : PS → Int) : rounds (yMi fl pM1) (kMi fl pM1) (mm + 1) (hM1 n m (rwj g sx jx) row2 a b i) [(24, .mp false true (mi u))] = (if (decide (i < (↑n : Int))) = true then (chk true (decide ((0 : Int) ≤ i) && decide (i < (↑n : Int))) (if (g i.toNat (1 : Nat) == (0 : Int)) = true then (rounds (yMi fl pM1) (kMi fl pM1) mm ([((27 : Nat), none, i64 ((W (i + (1 : Int))))), ((26 : Nat), none, i64 ((↑n : Int))), ((25 : Nat), none, PV.one (PS.view n (12 : Nat) (rwj g sx jx))), ((8 : Nat), none, PV.one (PS.os (24 : Nat))), ((7 : Nat), none, i64 (a)), ((6 : Nat), none, i64 (b)), ((5 : Nat), none, i64 ((0 : Int))), ((4 : Nat), none, PV.one PS.nils), ((0 : Nat), none, PV.one (PS.view n (12 : Nat) (rwj g sx jx))), ((1 : Nat), none, PV.one (PS.view m (12 : Nat) row2))]) ([((24 : Nat), OB.mp false true (putM (fun x ↦ PS.int IntKind.i64 (u x)) (PS.str (sx i.toNat (10 : Nat))) (PS.int IntKind.i64 (1 : Int))))])) else (rounds (yMi fl pM1) (kMi fl pM1) mm ([((27 : Nat), none, i64 ((W (i + (1 : Int))))), ((26 : Nat), none, i64 ((↑n : Int))), ((25 : Nat), none, PV.one (PS.view n (12 : Nat) (rwj g sx jx))), ((8 : Nat), none, PV.one (PS.os (24 : Nat))), ((7 : Nat), none, i64 (a)), ((6 : Nat), none, i64 (b)), ((5 : Nat), none, i64 ((0 : Int))), ((4 : Nat), none, PV.one PS.nils), ((0 : Nat), none, PV.one (PS.view n (12 : Nat) (rwj g sx jx))), ((1 : Nat), none, PV.one (PS.view m (12 : Nat) row2))]) ([((24 : Nat), OB.mp false true fun x ↦ PS.int IntKind.i64 (u x))])))) else (rounds (yMi fl pM2) (kMi fl pM2) fl ([((40 : Nat), none, i64 ((0 : Int))), ((39 : Nat), none, i64 ((↑m : Int))), ((38 : Nat), none, PV.one (PS.view m (12 : Nat) row2)), ((11 : Nat), none, PV.one PS.nils), ((27 : Nat), none, i64 (i)), ((26 : Nat), none, i64 ((↑n : Int))), ((25 : Nat), none, PV.one (PS.view n (12 : Nat) (rwj g sx jx))), ((8 : Nat), none, PV.one (PS.os (24 : Nat))), ((7 : Nat), none, i64 (a)), ((6 : Nat), none, i64 (b)), ((5 : Nat), none, i64 ((0 : Int))), ((4 : Nat), none, PV.one PS.nils), ((0 : Nat), none, PV.one (PS.view n (12 : Nat) (rwj g sx jx))), ((1 : Nat), none, PV.one (PS.view m (12 : Nat) row2))]) ([((24 : Nat), OB.mp false true fun x ↦ PS.int IntKind.i64 (u x))]))) := by kernel_rfl
abbrev hM2 (n m : Nat) (row row2 : Nat → Nat → PS) (o : PS) (a b k : Int) (i : Int) : En := [(40, none, i64 i), (39, none, i64 m), (38, none, sv m row2), (11, none, .one o), (27, none, i64 k), (26, none, i64 n), (25, none, sv n row), (8, none, .one (.os 24)), (7, none, i64 a), (6, none, i64 b), (5, none, i64 0), (4, none, .one .nils), (0, none, sv n row), (1, none, sv m row2)]
theorem m2_n (fl mm n m : Nat) (row : Nat → Nat → PS) (g : Nat → Nat → Int) (sx : Nat → Nat → ByteArray) (jx : Nat → Nat → PS) (a b k i : Int) (u : PS → Int) : rounds (yMi fl pM2) (kMi fl pM2) (mm + 1) (hM2 n m row (rwj g sx jx) .nils a b k i) [(24, .mp false true (mi u))] = (if (decide (i < (↑m : Int))) = true then (chk true (decide ((0 : Int) ≤ i) && decide (i < (↑m : Int))) (if (decide (g i.toNat (1 : Nat) = (0 : Int))) = true then (if (bif bif g i.toNat (1 : Nat) == (0 : Int) then q_hp (sx i.toNat (10 : Nat)) { data := { toList := [OfNat.ofNat (112 : Nat), OfNat.ofNat (108 : Nat), OfNat.ofNat (97 : Nat), OfNat.ofNat (99 : Nat), OfNat.ofNat (101 : Nat), OfNat.ofNat (46 : Nat)] } } else false then u (PS.str (sx i.toNat (10 : Nat))) == (0 : Int) else false) = true then (rounds (yMi fl pM2) (kMi fl pM2) mm ([((40 : Nat), none, i64 ((W (i + (1 : Int))))), ((39 : Nat), none, i64 ((↑m : Int))), ((38 : Nat), none, PV.one (PS.view m (12 : Nat) (rwj g sx jx))), ((11 : Nat), none, PV.one (PS.os (65 : Nat))), ((27 : Nat), none, i64 (k)), ((26 : Nat), none, i64 ((↑n : Int))), ((25 : Nat), none, PV.one (PS.view n (12 : Nat) row)), ((8 : Nat), none, PV.one (PS.os (24 : Nat))), ((7 : Nat), none, i64 (a)), ((6 : Nat), none, i64 (b)), ((5 : Nat), none, i64 ((0 : Int))), ((4 : Nat), none, PV.one PS.nils), ((0 : Nat), none, PV.one (PS.view n (12 : Nat) row)), ((1 : Nat), none, PV.one (PS.view m (12 : Nat) (rwj g sx jx)))]) ([((65 : Nat), OB.rows (9 : Nat) (1 : Nat) (1 : Nat) (appRow (0 : Nat) (fun _ _ ↦ PS.nilp) (litRow (1 : Nat) [PS.str (sx i.toNat (10 : Nat))]))), ((24 : Nat), OB.mp false true (putM (fun x ↦ PS.int IntKind.i64 (u x)) (PS.str (sx i.toNat (10 : Nat))) (PS.int IntKind.i64 (1 : Int))))])) else (rounds (yMi fl pM2) (kMi fl pM2) mm ([((40 : Nat), none, i64 ((W (i + (1 : Int))))), ((39 : Nat), none, i64 ((↑m : Int))), ((38 : Nat), none, PV.one (PS.view m (12 : Nat) (rwj g sx jx))), ((11 : Nat), none, PV.one PS.nils), ((27 : Nat), none, i64 (k)), ((26 : Nat), none, i64 ((↑n : Int))), ((25 : Nat), none, PV.one (PS.view n (12 : Nat) row)), ((8 : Nat), none, PV.one (PS.os (24 : Nat))), ((7 : Nat), none, i64 (a)), ((6 : Nat), none, i64 (b)), ((5 : Nat), none, i64 ((0 : Int))), ((4 : Nat), none, PV.one PS.nils), ((0 : Nat), none, PV.one (PS.view n (12 : Nat) row)), ((1 : Nat), none, PV.one (PS.view m (12 : Nat) (rwj g sx jx)))]) ([((24 : Nat), OB.mp false true fun x ↦ PS.int IntKind.i64 (u x))]))) else (if (bif bif g i.toNat (1 : Nat) == (0 : Int) then false else false then u (PS.str (sx i.toNat (10 : Nat))) == (0 : Int) else false) = true then (rounds (yMi fl pM2) (kMi fl pM2) mm ([((40 : Nat), none, i64 ((W (i + (1 : Int))))), ((39 : Nat), none, i64 ((↑m : Int))), ((38 : Nat), none, PV.one (PS.view m (12 : Nat) (rwj g sx jx))), ((11 : Nat), none, PV.one (PS.os (65 : Nat))), ((27 : Nat), none, i64 (k)), ((26 : Nat), none, i64 ((↑n : Int))), ((25 : Nat), none, PV.one (PS.view n (12 : Nat) row)), ((8 : Nat), none, PV.one (PS.os (24 : Nat))), ((7 : Nat), none, i64 (a)), ((6 : Nat), none, i64 (b)), ((5 : Nat), none, i64 ((0 : Int))), ((4 : Nat), none, PV.one PS.nils), ((0 : Nat), none, PV.one (PS.view n (12 : Nat) row)), ((1 : Nat), none, PV.one (PS.view m (12 : Nat) (rwj g sx jx)))]) ([((65 : Nat), OB.rows (9 : Nat) (1 : Nat) (1 : Nat) (appRow (0 : Nat) (fun _ _ ↦ PS.nilp) (litRow (1 : Nat) [PS.str (sx i.toNat (10 : Nat))]))), ((24 : Nat), OB.mp false true (putM (fun x ↦ PS.int IntKind.i64 (u x)) (PS.str (sx i.toNat (10 : Nat))) (PS.int IntKind.i64 (1 : Int))))])) else (rounds (yMi fl pM2) (kMi fl pM2) mm ([((40 : Nat), none, i64 ((W (i + (1 : Int))))), ((39 : Nat), none, i64 ((↑m : Int))), ((38 : Nat), none, PV.one (PS.view m (12 : Nat) (rwj g sx jx))), ((11 : Nat), none, PV.one PS.nils), ((27 : Nat), none, i64 (k)), ((26 : Nat), none, i64 ((↑n : Int))), ((25 : Nat), none, PV.one (PS.view n (12 : Nat) row)), ((8 : Nat), none, PV.one (PS.os (24 : Nat))), ((7 : Nat), none, i64 (a)), ((6 : Nat), none, i64 (b)), ((5 : Nat), none, i64 ((0 : Int))), ((4 : Nat), none, PV.one PS.nils), ((0 : Nat), none, PV.one (PS.view n (12 : Nat) row)), ((1 : Nat), none, PV.one (PS.view m (12 : Nat) (rwj g sx jx)))]) ([((24 : Nat), OB.mp false true fun x ↦ PS.int IntKind.i64 (u x))]))))) else (some ((PV.tup [PV.one PS.nils, i64 ((0 : Int))], [])))) := by kernel_rfl
theorem m2_o (fl mm n m q : Nat) (row : Nat → Nat → PS) (g : Nat → Nat → Int) (sx : Nat → Nat → ByteArray) (jx : Nat → Nat → PS) (a b k i : Int) (u : PS → Int) (bt : Nat → ByteArray) (J : Nat → Nat → PS) : rounds (yMi fl pM2) (kMi fl pM2) (mm + 1) (hM2 n m row (rwj g sx jx) (.os 65) a b k i) [(65, .rows 9 1 q (rt bt J)), (24, .mp false true (mi u))] = (if (decide (i < (↑m : Int))) = true then (chk true (decide ((0 : Int) ≤ i) && decide (i < (↑m : Int))) (if (decide (g i.toNat (1 : Nat) = (0 : Int))) = true then (if (bif bif g i.toNat (1 : Nat) == (0 : Int) then q_hp (sx i.toNat (10 : Nat)) { data := { toList := [OfNat.ofNat (112 : Nat), OfNat.ofNat (108 : Nat), OfNat.ofNat (97 : Nat), OfNat.ofNat (99 : Nat), OfNat.ofNat (101 : Nat), OfNat.ofNat (46 : Nat)] } } else false then u (PS.str (sx i.toNat (10 : Nat))) == (0 : Int) else false) = true then (if (true && (decide (q + (1 : Nat) ≤ (9223372036854775807 : Nat)) && decide ((q + (1 : Nat)) * (16 : Nat) ≤ (140737488355328 : Nat)))) = true then (rounds (yMi fl pM2) (kMi fl pM2) mm ([((40 : Nat), none, i64 ((W (i + (1 : Int))))), ((39 : Nat), none, i64 ((↑m : Int))), ((38 : Nat), none, PV.one (PS.view m (12 : Nat) (rwj g sx jx))), ((11 : Nat), none, PV.one (PS.os (65 : Nat))), ((27 : Nat), none, i64 (k)), ((26 : Nat), none, i64 ((↑n : Int))), ((25 : Nat), none, PV.one (PS.view n (12 : Nat) row)), ((8 : Nat), none, PV.one (PS.os (24 : Nat))), ((7 : Nat), none, i64 (a)), ((6 : Nat), none, i64 (b)), ((5 : Nat), none, i64 ((0 : Int))), ((4 : Nat), none, PV.one PS.nils), ((0 : Nat), none, PV.one (PS.view n (12 : Nat) row)), ((1 : Nat), none, PV.one (PS.view m (12 : Nat) (rwj g sx jx)))]) ([((65 : Nat), OB.rows (9 : Nat) (1 : Nat) (q + (1 : Nat)) (appRow q (rt bt J) (litRow (1 : Nat) [PS.str (sx i.toNat (10 : Nat))]))), ((24 : Nat), OB.mp false true (putM (fun x ↦ PS.int IntKind.i64 (u x)) (PS.str (sx i.toNat (10 : Nat))) (PS.int IntKind.i64 (1 : Int))))])) else none) else (rounds (yMi fl pM2) (kMi fl pM2) mm ([((40 : Nat), none, i64 ((W (i + (1 : Int))))), ((39 : Nat), none, i64 ((↑m : Int))), ((38 : Nat), none, PV.one (PS.view m (12 : Nat) (rwj g sx jx))), ((11 : Nat), none, PV.one (PS.os (65 : Nat))), ((27 : Nat), none, i64 (k)), ((26 : Nat), none, i64 ((↑n : Int))), ((25 : Nat), none, PV.one (PS.view n (12 : Nat) row)), ((8 : Nat), none, PV.one (PS.os (24 : Nat))), ((7 : Nat), none, i64 (a)), ((6 : Nat), none, i64 (b)), ((5 : Nat), none, i64 ((0 : Int))), ((4 : Nat), none, PV.one PS.nils), ((0 : Nat), none, PV.one (PS.view n (12 : Nat) row)), ((1 : Nat), none, PV.one (PS.view m (12 : Nat) (rwj g sx jx)))]) ([((65 : Nat), OB.rows (9 : Nat) (1 : Nat) q (rt bt J)), ((24 : Nat), OB.mp false true fun x ↦ PS.int IntKind.i64 (u x))]))) else (if (bif bif g i.toNat (1 : Nat) == (0 : Int) then false else false then u (PS.str (sx i.toNat (10 : Nat))) == (0 : Int) else false) = true then (if (true && (decide (q + (1 : Nat) ≤ (9223372036854775807 : Nat)) && decide ((q + (1 : Nat)) * (16 : Nat) ≤ (140737488355328 : Nat)))) = true then (rounds (yMi fl pM2) (kMi fl pM2) mm ([((40 : Nat), none, i64 ((W (i + (1 : Int))))), ((39 : Nat), none, i64 ((↑m : Int))), ((38 : Nat), none, PV.one (PS.view m (12 : Nat) (rwj g sx jx))), ((11 : Nat), none, PV.one (PS.os (65 : Nat))), ((27 : Nat), none, i64 (k)), ((26 : Nat), none, i64 ((↑n : Int))), ((25 : Nat), none, PV.one (PS.view n (12 : Nat) row)), ((8 : Nat), none, PV.one (PS.os (24 : Nat))), ((7 : Nat), none, i64 (a)), ((6 : Nat), none, i64 (b)), ((5 : Nat), none, i64 ((0 : Int))), ((4 : Nat), none, PV.one PS.nils), ((0 : Nat), none, PV.one (PS.view n (12 : Nat) row)), ((1 : Nat), none, PV.one (PS.view m (12 : Nat) (rwj g sx jx)))]) ([((65 : Nat), OB.rows (9 : Nat) (1 : Nat) (q + (1 : Nat)) (appRow q (rt bt J) (litRow (1 : Nat) [PS.str (sx i.toNat (10 : Nat))]))), ((24 : Nat), OB.mp false true (putM (fun x ↦ PS.int IntKind.i64 (u x)) (PS.str (sx i.toNat (10 : Nat))) (PS.int IntKind.i64 (1 : Int))))])) else none) else (rounds (yMi fl pM2) (kMi fl pM2) mm ([((40 : Nat), none, i64 ((W (i + (1 : Int))))), ((39 : Nat), none, i64 ((↑m : Int))), ((38 : Nat), none, PV.one (PS.view m (12 : Nat) (rwj g sx jx))), ((11 : Nat), none, PV.one (PS.os (65 : Nat))), ((27 : Nat), none, i64 (k)), ((26 : Nat), none, i64 ((↑n : Int))), ((25 : Nat), none, PV.one (PS.view n (12 : Nat) row)), ((8 : Nat), none, PV.one (PS.os (24 : Nat))), ((7 : Nat), none, i64 (a)), ((6 : Nat), none, i64 (b)), ((5 : Nat), none, i64 ((0 : Int))), ((4 : Nat), none, PV.one PS.nils), ((0 : Nat), none, PV.one (PS.view n (12 : Nat) row)), ((1 : Nat), none, PV.one (PS.view m (12 : Nat) (rwj g sx jx)))]) ([((65 : Nat), OB.rows (9 : Nat) (1 : Nat) q (rt bt J)), ((24 : Nat), OB.mp false true fun x ↦ PS.int IntKind.i64 (u x))]))))) else (some ((PV.tup [PV.one (PS.os (0 : Nat)), i64 ((0 : Int))], [((0 : Nat), OB.rows (9 : Nat) (1 : Nat) q (rt bt J))])))) := by kernel_rfl
def upd (u : PS → Int) (s : ByteArray) (v : Int) : PS → Int := fun x => bif eqK x (.str s) then v else u x
theorem put_mi (u : PS → Int) (s : ByteArray) (v : Int) : putM (fun x => .int .i64 (u x)) (.str s) (.int .i64 v) = fun x => .int .i64 (upd u s v x) := rfl
theorem upd_at (u : PS → Int) (s s' : ByteArray) (v : Int) : upd u s v (.str s') = if s' = s then v else u (.str s') := by
  show (bif strEq s' s then v else u (.str s')) = _
  by_cases h : s' = s
  · rw [if_pos h, strEq_iff.2 h]; rfl
  · rw [if_neg h]
    cases e : strEq s' s
    · rfl
    · exact absurd (strEq_iff.1 e) h
def q_us (g : Nat → Nat → Int) (sx : Nat → Nat → ByteArray) : Nat → PS → Int
  | 0 => fun _ => 0
  | i + 1 => if g i 1 = 0 then upd (q_us g sx i) (sx i 10) 1 else q_us g sx i
def q_mc (g : Nat → Nat → Int) (sx : Nat → Nat → ByteArray) (u : PS → Int) (i : Nat) : Bool := decide (g i 1 = 0) && (q_hp (sx i 10) plc && u (.str (sx i 10)) == 0)
def q_mf (g : Nat → Nat → Int) (sx : Nat → Nat → ByteArray) : Nat → Nat → (PS → Int) → List ByteArray → List ByteArray
  | 0, _, _, l => l
  | r + 1, i, u, l => if q_mc g sx u i = true then q_mf g sx r (i + 1) (upd u (sx i 10) 1) (l ++ [sx i 10]) else q_mf g sx r (i + 1) u l
def RtIs (l : List ByteArray) (row : Nat → Nat → PS) : Prop := ∃ b J, row = rt b J ∧ ∀ k, k < l.length → b k = l.getD k emp
theorem app_rt (n : Nat) (b : Nat → ByteArray) (J : Nat → Nat → PS) (x : ByteArray) : ∃ J', appRow n (rt b J) (litRow 1 [.str x]) = rt (fun i => if i < n then b i else x) J' := by
  refine ⟨fun i j => if i < n then J i j else .nilp, ?_⟩
  funext i j
  rw [appRow_eq]
  unfold rt litRow
  by_cases hi : i < n
  · simp [hi]
  · by_cases hj : j < 1
    · obtain rfl : j = 0 := by omega
      simp [hi]
    · obtain ⟨j, rfl⟩ : ∃ j', j = j' + 1 := ⟨j - 1, by omega⟩
      simp [hi]
theorem app_rt0 (R : Nat → Nat → PS) (x : ByteArray) : ∃ J', appRow 0 R (litRow 1 [.str x]) = rt (fun _ => x) J' := by
  refine ⟨fun i j => .nilp, ?_⟩
  funext i j
  rw [appRow_eq]
  unfold rt litRow
  by_cases hj : j < 1
  · obtain rfl : j = 0 := by omega
    simp
  · obtain ⟨j, rfl⟩ : ∃ j', j = j' + 1 := ⟨j - 1, by omega⟩
    simp
theorem rtIs_app {l : List ByteArray} {row : Nat → Nat → PS} (h : RtIs l row) (x : ByteArray) : RtIs (l ++ [x]) (appRow l.length row (litRow 1 [.str x])) := by
  obtain ⟨b, J, rfl, hb⟩ := h
  obtain ⟨J', e⟩ := app_rt l.length b J x
  refine ⟨_, J', e, fun k hk => ?_⟩
  rw [List.length_append] at hk
  by_cases h : k < l.length
  · rw [if_pos h, hb k h, List.getD_eq_getElem?_getD, List.getD_eq_getElem?_getD, List.getElem?_append_left h]
  · obtain rfl : k = l.length := by simp at hk; omega
    rw [if_neg h, List.getD_eq_getElem?_getD, List.getElem?_append_right (Nat.le_refl _)]
    simp
theorem m1_loop (fl n m : Nat) (hn : n ≤ 1000000) (g : Nat → Nat → Int) (sx : Nat → Nat → ByteArray) (jx : Nat → Nat → PS) (row2 : Nat → Nat → PS) (a b : Int) : ∀ (r i m1 : Nat), i + r = n → r < m1 → rounds (yMi fl pM1) (kMi fl pM1) m1 (hM1 n m (rwj g sx jx) row2 a b (i : Nat)) [(24, .mp false true (mi (q_us g sx i)))] = rounds (yMi fl pM2) (kMi fl pM2) fl (hM2 n m (rwj g sx jx) row2 .nils a b (n : Nat) (0 : Int)) [(24, .mp false true (mi (q_us g sx n)))] := by
  intro r
  induction r with
  | zero =>
    intro i m1 hi hm
    obtain ⟨m1, rfl⟩ : ∃ m', m1 = m' + 1 := ⟨m1 - 1, by omega⟩
    obtain rfl : i = n := by omega
    rw [m1_st, if_neg (by simp <;> omega)]
  | succ r ih =>
    intro i m1 hi hm
    obtain ⟨m1, rfl⟩ : ∃ m', m1 = m' + 1 := ⟨m1 - 1, by omega⟩
    rw [m1_st, if_pos (by simp <;> omega), chk_true (by simp <;> omega), Int.toNat_natCast, W_nat (by omega), put_mi]
    refine Eq.trans ?_ (ih (i + 1) m1 (by omega) (by omega))
    by_cases e : g i 1 = 0
    · rw [if_pos (by simpa using e)]
      have : q_us g sx (i + 1) = upd (q_us g sx i) (sx i 10) 1 := by show (if _ then _ else _) = _; rw [if_pos e]
      rw [this]
    · rw [if_neg (by simpa using e)]
      have : q_us g sx (i + 1) = q_us g sx i := by show (if _ then _ else _) = _; rw [if_neg e]
      rw [this]
theorem mc_split {g : Nat → Nat → Int} {sx : Nat → Nat → ByteArray} {u : PS → Int} {i : Nat} : q_mc g sx u i = bif bif g i 1 == 0 then q_hp (sx i 10) plc else false then u (.str (sx i 10)) == 0 else false := by
  unfold q_mc
  by_cases h : g i 1 = 0
  · cases q_hp (sx i 10) plc <;> simp [h]
  · simp [h]
theorem m2_oloop (fl n m : Nat) (hn : m ≤ 1000000) (row : Nat → Nat → PS) (g : Nat → Nat → Int) (sx : Nat → Nat → ByteArray) (jx : Nat → Nat → PS) (a b k : Int) : ∀ (r i m1 : Nat) (u : PS → Int) (l : List ByteArray) (R : Nat → Nat → PS), i + r = m → r < m1 → l.length ≤ i → 0 < l.length → RtIs l R →
    ∃ R', rounds (yMi fl pM2) (kMi fl pM2) m1 (hM2 n m row (rwj g sx jx) (.os 65) a b k (i : Nat)) [(65, .rows 9 1 l.length R), (24, .mp false true (mi u))] = some (.tup [.one (.os 0), i64 0], [(0, .rows 9 1 (q_mf g sx r i u l).length R')]) ∧ RtIs (q_mf g sx r i u l) R' := by
  intro r
  induction r with
  | zero =>
    intro i m1 u l R hi hm hl h0 hR
    obtain ⟨m1, rfl⟩ : ∃ m', m1 = m' + 1 := ⟨m1 - 1, by omega⟩
    refine ⟨R, ?_, hR⟩
    obtain ⟨bt, J, rfl, _⟩ := hR
    rw [m2_o, if_neg (by simp <;> omega)]
    rfl
  | succ r ih =>
    intro i m1 u l R hi hm hl h0 hR
    obtain ⟨m1, rfl⟩ : ∃ m', m1 = m' + 1 := ⟨m1 - 1, by omega⟩
    have hA := rtIs_app hR (sx i 10)
    have el : (l ++ [sx i 10]).length = l.length + 1 := by simp
    have i1 := ih (i + 1) m1 (upd u (sx i 10) 1) (l ++ [sx i 10]) _ (by omega) (by omega) (by rw [el]; omega) (by rw [el]; omega) hA
    have i2 := ih (i + 1) m1 u l R (by omega) (by omega) (by omega) h0 hR
    rw [el] at i1
    obtain ⟨bt, J, rfl, _⟩ := hR
    rw [m2_o, if_pos (by simp <;> omega), chk_true (by simp <;> omega), Int.toNat_natCast, W_nat (by omega), put_mi]
    unfold q_mf
    rw [mc_split]
    by_cases p : g i 1 = 0
    · rw [if_pos (by simpa using p)]
      by_cases e : (bif bif g i 1 == 0 then q_hp (sx i 10) plc else false then u (.str (sx i 10)) == 0 else false) = true
      · rw [if_pos e, if_pos e, if_pos (by simp <;> omega)]
        exact i1
      · rw [if_neg e, if_neg e]
        exact i2
    · rw [if_neg (by simpa using p), if_neg (by simp), if_neg (by simp [p])]
      exact i2
/-- What Missing answers: nothing, or its own row. -/
def MiA (l : List ByteArray) (x : Option (PV × Heap)) : Prop := (l = [] ∧ x = some (.tup [.one .nils, i64 0], [])) ∨ ∃ R, x = some (.tup [.one (.os 0), i64 0], [(0, .rows 9 1 l.length R)]) ∧ RtIs l R
theorem m2_nloop (fl n m : Nat) (hn : m ≤ 1000000) (row : Nat → Nat → PS) (g : Nat → Nat → Int) (sx : Nat → Nat → ByteArray) (jx : Nat → Nat → PS) (a b k : Int) (u : PS → Int) : ∀ (r i m1 : Nat), i + r = m → r < m1 →
    MiA (q_mf g sx r i u []) (rounds (yMi fl pM2) (kMi fl pM2) m1 (hM2 n m row (rwj g sx jx) .nils a b k (i : Nat)) [(24, .mp false true (mi u))]) := by
  intro r
  induction r with
  | zero =>
    intro i m1 hi hm
    obtain ⟨m1, rfl⟩ : ∃ m', m1 = m' + 1 := ⟨m1 - 1, by omega⟩
    rw [m2_n, if_neg (by simp <;> omega)]
    exact .inl ⟨rfl, rfl⟩
  | succ r ih =>
    intro i m1 hi hm
    obtain ⟨m1, rfl⟩ : ∃ m', m1 = m' + 1 := ⟨m1 - 1, by omega⟩
    have i2 := ih (i + 1) m1 (by omega) (by omega)
    obtain ⟨J', eJ⟩ := app_rt0 (fun _ _ => .nilp) (sx i 10)
    have hA : RtIs [sx i 10] (appRow 0 (fun _ _ => .nilp) (litRow 1 [.str (sx i 10)])) := ⟨_, J', eJ, fun k hk => by
      obtain rfl : k = 0 := by simp at hk; omega
      rfl⟩
    have i1 := m2_oloop fl n m hn row g sx jx a b k r (i + 1) m1 (upd u (sx i 10) 1) [sx i 10] _ (by omega) (by omega) (by simp) (by simp) hA
    by_cases e : q_mc g sx u i = true
    · have e1 : q_mf g sx (r + 1) i u [] = q_mf g sx r (i + 1) (upd u (sx i 10) 1) [sx i 10] := by
        show (if _ then _ else _) = _
        rw [if_pos e]
        rfl
      rw [e1]
      rw [mc_split] at e
      have p : g i 1 = 0 := by
        by_cases p : g i 1 = 0
        · exact p
        · simp [p] at e
      rw [m2_n, if_pos (by simp <;> omega), chk_true (by simp <;> omega), Int.toNat_natCast, W_nat (by omega), put_mi, if_pos (by simpa using p), if_pos e]
      exact .inr i1
    · have e1 : q_mf g sx (r + 1) i u [] = q_mf g sx r (i + 1) u [] := by
        show (if _ then _ else _) = _
        rw [if_neg e]
      rw [e1]
      rw [mc_split] at e
      rw [m2_n, if_pos (by simp <;> omega), chk_true (by simp <;> omega), Int.toNat_natCast, W_nat (by omega)]
      by_cases p : g i 1 = 0
      · rw [if_pos (by simpa using p), if_neg e]
        exact i2
      · rw [if_neg (by simpa using p), if_neg (by simp)]
        exact i2
theorem us_cg {g g' : Nat → Nat → Int} {sx sx' : Nat → Nat → ByteArray} : ∀ n, (∀ k, k < n → g k 1 = g' k 1 ∧ sx k 10 = sx' k 10) → q_us g sx n = q_us g' sx' n := by
  intro n
  induction n with
  | zero => exact fun _ => rfl
  | succ n ih =>
    intro h
    unfold q_us
    rw [(h n (by omega)).1, (h n (by omega)).2, ih (fun k hk => h k (by omega))]
theorem mf_cg {g g' : Nat → Nat → Int} {sx sx' : Nat → Nat → ByteArray} : ∀ (r i : Nat) (u : PS → Int) (l : List ByteArray), (∀ k, k < i + r → g k 1 = g' k 1 ∧ sx k 10 = sx' k 10) → q_mf g sx r i u l = q_mf g' sx' r i u l := by
  intro r
  induction r with
  | zero => exact fun _ _ _ _ => rfl
  | succ r ih =>
    intro i u l h
    unfold q_mf
    have e : q_mc g sx u i = q_mc g' sx' u i := by unfold q_mc; rw [(h i (by omega)).1, (h i (by omega)).2]
    rw [e, (h i (by omega)).2, ih (i + 1) _ _ (fun k hk => h k (by omega)), ih (i + 1) _ _ (fun k hk => h k (by omega))]
/-- The names that Missing gives. -/
def q_mn (n m : Nat) (g g2 : Nat → Nat → Int) (sx sx2 : Nat → Nat → ByteArray) : List ByteArray := q_mf g2 sx2 m 0 (q_us g sx n) []
/-- None of them is the name of a shape of the slide that is in no group. -/
theorem us_one {g : Nat → Nat → Int} {sx : Nat → Nat → ByteArray} {k : Nat} (h : g k 1 = 0) : ∀ n, k < n → q_us g sx n (.str (sx k 10)) = 1 := by
  intro n
  induction n with
  | zero => intro h; omega
  | succ n ih =>
    intro hk
    unfold q_us
    by_cases e : k = n
    · subst e
      rw [if_pos h, upd_at, if_pos rfl]
    · have := ih (by omega)
      split
      · rw [upd_at, this]; exact ite_self _
      · exact this
theorem mf_not {g : Nat → Nat → Int} {sx : Nat → Nat → ByteArray} {s : ByteArray} : ∀ (r i : Nat) (u : PS → Int) (l : List ByteArray), u (.str s) = 1 → s ∉ l → s ∉ q_mf g sx r i u l := by
  intro r
  induction r with
  | zero => exact fun _ _ _ _ h => h
  | succ r ih =>
    intro i u l hu hl
    unfold q_mf
    split
    · rename_i c
      refine ih _ _ _ (by rw [upd_at, hu]; exact ite_self _) (fun q => ?_)
      rcases List.mem_append.1 q with q | q
      · exact hl q
      · have e : s = sx i 10 := by simpa using q
        unfold q_mc at c
        rw [← e, hu] at c
        simp at c
    · exact ih _ _ _ hu hl
theorem mn_not {n m : Nat} {g g2 : Nat → Nat → Int} {sx sx2 : Nat → Nat → ByteArray} {k : Nat} (hk : k < n) (h : g k 1 = 0) : sx k 10 ∉ q_mn n m g g2 sx sx2 := mf_not _ _ _ _ (us_one h n hk) (by simp)
theorem mn_cg {n m : Nat} {g g2 g' g2' : Nat → Nat → Int} {sx sx2 sx' sx2' : Nat → Nat → ByteArray} (h : ∀ k, k < n → g k 1 = g' k 1 ∧ sx k 10 = sx' k 10) (h2 : ∀ k, k < m → g2 k 1 = g2' k 1 ∧ sx2 k 10 = sx2' k 10) : q_mn n m g g2 sx sx2 = q_mn n m g' g2' sx' sx2' := by
  unfold q_mn
  rw [us_cg n h, mf_cg m 0 _ _ (fun k hk => h2 k (by omega))]
def q_mnl (n m : Nat) (g g2 : Nat → Nat → Int) (sx sx2 : Nat → Nat → ByteArray) : Nat := (q_mn n m g g2 sx sx2).length
def q_mnt (n m : Nat) (g g2 : Nat → Nat → Int) (sx sx2 : Nat → Nat → ByteArray) : Nat → ByteArray := fun k => (q_mn n m g g2 sx sx2).getD k emp
noncomputable def O17 : Orac := addM 8 (fun nb vs H => match nb, H with
  | 0, [] => ((fun vs => match vs with
    | [.one (.view n 12 row), .one (.view m 12 row2)] => some (q_dec ((q_isRw row ∧ n ≤ 100000 ∧ q_chk n (q_nu n row) = 0) ∧ q_isRw row2 ∧ m ≤ 100000 ∧ q_chk m (q_nu m row2) = 0), .tup [.one (.view (q_mnl n m (q_nu n row) (q_nu m row2) (q_tx2 n row) (q_tx2 m row2)) 1 (rt (q_mnt n m (q_nu n row) (q_nu m row2) (q_tx2 n row) (q_tx2 m row2)) (fun _ _ => .nilp))), i64 0])
    | _ => none : List PV → Option (Bool × PV)) vs).map (fun r => (r.1, r.2, []))
  | _, _ => none) O16
theorem sO17 : Sound prog gl O17 := add_fz (D := DS) sO16 sO16 mo (fun vs v h => by
  split at h
  · rename_i n row m row2
    obtain ⟨h1, h2⟩ := Prod.mk.inj (Option.some.inj h)
    subst h2
    obtain ⟨⟨⟨g, sx, jx, rfl⟩, hn, hc⟩, ⟨g2, sx2, jx2, rfl⟩, hm, hc2⟩ := q_dec_iff.1 h1
    have key := m2_nloop (n + m + 2) n m (by omega) (rwj g sx jx) g2 sx2 jx2 0 0 (n : Nat) (q_us g sx n) m 0 (n + m + 2) (by omega) (by omega)
    have e1 : callF prog gl DS (n + m + 2) O16 0 8 [sv n (rwj g sx jx), sv m (rwj g2 sx2 jx2)] [] = rounds (yMi (n + m + 2) pM2) (kMi (n + m + 2) pM2) (n + m + 2) (hM2 n m (rwj g sx jx) (rwj g2 sx2 jx2) .nils 0 0 (n : Nat) (0 : Int)) [(24, .mp false true (mi (q_us g sx n)))] := by
      rw [mi_pre, if_pos (q_dec_iff.2 ⟨⟨g, sx, jx, rfl⟩, hn⟩), if_neg (by rw [hc]; simp), if_pos (q_dec_iff.2 ⟨⟨g2, sx2, jx2, rfl⟩, hm⟩), if_neg (by rw [hc2]; simp), hc, hc2]
      exact m1_loop (n + m + 2) n m (by omega) g sx jx _ 0 0 n 0 (n + m + 2) (by omega) (by omega)
    have e2 : q_mn n m (q_nu n (rwj g sx jx)) (q_nu m (rwj g2 sx2 jx2)) (q_tx2 n (rwj g sx jx)) (q_tx2 m (rwj g2 sx2 jx2)) = q_mf g2 sx2 m 0 (q_us g sx n) [] := by
      rw [nu_rwj, nu_rwj, tx_rwj, tx_rwj]
      exact mn_cg (fun k hk => ⟨cutG_in hk (by omega), by unfold cutS; rw [if_pos ⟨hk, .inl rfl⟩]⟩) (fun k hk => ⟨cutG_in hk (by omega), by unfold cutS; rw [if_pos ⟨hk, .inl rfl⟩]⟩)
    unfold q_mnl q_mnt
    rw [e2]
    rcases key with ⟨hl, hx⟩ | ⟨R, hx, hR⟩
    · refine ⟨n + m + 2, _, _, e1.trans hx, ?_, rfl⟩
      rw [hl]
      exact .cons (.none 1 _) (.cons (.refl _) .nil)
    · refine ⟨n + m + 2, _, _, e1.trans hx, .cons (.view fun i j hi hj => ?_) (.cons (.refl _) .nil), rfl⟩
      obtain ⟨bt, J, rfl, hb⟩ := hR
      obtain rfl : j = 0 := by omega
      exact .of_eq (congrArg PS.str (hb i hi))
  · cases h)
end Go.Proofs.Ytobfnncpjkeloaa.Sh
