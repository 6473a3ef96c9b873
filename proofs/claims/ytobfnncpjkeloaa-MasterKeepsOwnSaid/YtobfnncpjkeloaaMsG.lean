import Derived.Test.YtobfnncpjkeloaaMsF
namespace Go.Proofs.Ytobfnncpjkeloaa.Sh
open Go Go.RowKit Go.Proofs.Ytobfnncpjkeloaa.Ev Go.Proofs.Try
set_option maxRecDepth 1000000
set_option linter.unusedVariables false
/-! HasPrefix, room, place -/
theorem hp_raw (a b : ByteArray) : callF prog gl noD 1 O9 0 62 [.one (.str a), .one (.str b)] [] = (chk (decide ((↑a.size : Int) ≥ (↑b.size : Int))) (true && (decide ((0 : Int) ≤ (↑b.size : Int)) && decide ((↑b.size : Int) ≤ (↑a.size : Int)))) (some ((PV.one (PS.bool (bif decide ((↑a.size : Int) ≥ (↑b.size : Int)) then strEq (strSub a (0 : Nat) (↑b.size : Int).toNat) b else false)), [])))) := by kernel_rfl
def q_hp (a b : ByteArray) : Bool := bif decide ((b.size : Int) ≤ (a.size : Int)) then strEq (strSub a 0 b.size) b else false
theorem hp_eq (a b : ByteArray) : callF prog gl noD 1 O9 0 62 [.one (.str a), .one (.str b)] [] = some (bl (q_hp a b), []) := by
  rw [hp_raw]
  by_cases h : (b.size : Int) ≤ (a.size : Int)
  · rw [chk_true (by simp; omega)]
    unfold q_hp
    simp [h]
  · rw [chk_no (by simp; omega)]
    unfold q_hp
    simp [h]
noncomputable def O10 : Orac := addM 62 (fun nb vs H => match nb, vs, H with
  | 0, [.one (.str a), .one (.str b)], [] => some (true, bl (q_hp a b), [])
  | _, _, _ => none) O9
theorem sO10 : Sound prog gl O10 := add_ok (D := noD) sO9 sO9 mo (fun nb vs H v H' h => by
  split at h
  · rename_i a b
    obtain ⟨h2, h3⟩ : bl (q_hp a b) = v ∧ [] = H' := by simpa using h
    subst h2 h3
    exact ⟨1, hp_eq a b⟩
  · cases h)
theorem hp2_raw (a b : ByteArray) : callF prog gl noD 1 O10 0 43 [.one (.str a), .one (.str b)] [] = (some ((PV.one (PS.bool (q_hp a b)), []))) := by kernel_rfl
noncomputable def O11 : Orac := addM 43 (fun nb vs H => match nb, vs, H with
  | 0, [.one (.str a), .one (.str b)], [] => some (true, bl (q_hp a b), [])
  | _, _, _ => none) O10
theorem sO11 : Sound prog gl O11 := add_ok (D := noD) sO10 sO10 mo (fun nb vs H v H' h => by
  split at h
  · rename_i a b
    obtain ⟨h2, h3⟩ : bl (q_hp a b) = v ∧ [] = H' := by simpa using h
    subst h2 h3
    exact ⟨1, hp2_raw a b⟩
  · cases h)
theorem rm_raw (c : Nat → Int) (s1 s2 : ByteArray) : callF prog gl noD 1 O11 0 25 [.agg (cel c s1 s2)] [] = (some ((PV.one (PS.bool (q_hp s1 { data := { toList := [OfNat.ofNat (112 : Nat), OfNat.ofNat (108 : Nat), OfNat.ofNat (97 : Nat), OfNat.ofNat (99 : Nat), OfNat.ofNat (101 : Nat), OfNat.ofNat (46 : Nat)] } })), []))) := by kernel_rfl
abbrev plc : ByteArray := { data := { toList := [112, 108, 97, 99, 101, 46] } }
noncomputable def O12 : Orac := addM 25 (fun nb vs H => match nb, vs, H with
  | 0, [.agg [.int .i64 c0, .int .i64 c1, .int .i64 c2, .int .i64 c3, .int .i64 c4, .int .i64 c5, .int .i64 c6, .int .i64 c7, .int .i64 c8, .int .i64 c9, .str s1, .str s2]], [] => some (true, bl (q_hp s1 plc), [])
  | _, _, _ => none) O11
theorem sO12 : Sound prog gl O12 := add_ok (D := noD) sO11 sO11 mo (fun nb vs H v H' h => by
  split at h
  · rename_i c0 c1 c2 c3 c4 c5 c6 c7 c8 c9 s1 s2
    obtain ⟨h2, h3⟩ : bl (q_hp s1 plc) = v ∧ [] = H' := by simpa using h
    subst h2 h3
    exact ⟨1, rm_raw (fun j => [c0, c1, c2, c3, c4, c5, c6, c7, c8, c9].getD j 0) s1 s2⟩
  · cases h)
/-- The law's rows of texts. -/
def rt (b : Nat → ByteArray) (J : Nat → Nat → PS) : Nat → Nat → PS := fun i j => if j < 1 then .str (b i) else J i j
noncomputable def DS : FuncId → PV := fun f => if f = 11 ∨ f = 27 then .fn 0 [] else if f = 25 then bl false else i64 0
abbrev pPl : List Bool := [true, false, true, false]
noncomputable abbrev yPl (fl : Nat) : En → Heap → (Exit → En → Heap → Option (PV × Heap)) → Option (PV × Heap) := bodyAt prog gl O12 DS f26 2 0 fl pPl
noncomputable abbrev kPl (fl : Nat) := kAt prog gl O12 DS f26 2 0 fl pPl
abbrev hPl (n : Nat) (row : Nat → Nat → PS) (nm : ByteArray) (i : Int) : En := [(9, none, i64 i), (8, none, i64 n), (7, none, .one (.view n 12 row)), (4, none, i64 0), (0, none, .one (.view n 12 row)), (1, none, .one (.str nm))]
theorem pl_pre (fl n : Nat) (row : Nat → Nat → PS) (nm : ByteArray) : callF prog gl DS fl O12 0 26 [.one (.view n 12 row), .one (.str nm)] [] = (rounds (yPl fl) (kPl fl) fl ([((9 : Nat), none, i64 ((0 : Int))), ((8 : Nat), none, i64 ((↑n : Int))), ((7 : Nat), none, PV.one (PS.view n (12 : Nat) row)), ((4 : Nat), none, i64 ((0 : Int))), ((0 : Nat), none, PV.one (PS.view n (12 : Nat) row)), ((1 : Nat), none, PV.one (PS.str nm))]) ([])) := by kernel_rfl
theorem pl_st (fl mm n : Nat) (g : Nat → Nat → Int) (sx : Nat → Nat → ByteArray) (jx : Nat → Nat → PS) (nm : ByteArray) (i : Int) : rounds (yPl fl) (kPl fl) (mm + 1) (hPl n (rwj g sx jx) nm i) [] = (if (decide (i < (↑n : Int))) = true then (chk true (decide ((0 : Int) ≤ i) && decide (i < (↑n : Int))) (if (decide (g i.toNat (1 : Nat) = (0 : Int))) = true then (if (bif bif g i.toNat (1 : Nat) == (0 : Int) then q_hp (sx i.toNat (10 : Nat)) { data := { toList := [OfNat.ofNat (112 : Nat), OfNat.ofNat (108 : Nat), OfNat.ofNat (97 : Nat), OfNat.ofNat (99 : Nat), OfNat.ofNat (101 : Nat), OfNat.ofNat (46 : Nat)] } } else false then strEq (sx i.toNat (10 : Nat)) nm else false) = true then (some ((i64 (i), []))) else (rounds (yPl fl) (kPl fl) mm ([((9 : Nat), none, i64 ((W (i + (1 : Int))))), ((8 : Nat), none, i64 ((↑n : Int))), ((7 : Nat), none, PV.one (PS.view n (12 : Nat) (rwj g sx jx))), ((4 : Nat), none, i64 ((0 : Int))), ((0 : Nat), none, PV.one (PS.view n (12 : Nat) (rwj g sx jx))), ((1 : Nat), none, PV.one (PS.str nm))]) ([]))) else (if (bif bif g i.toNat (1 : Nat) == (0 : Int) then false else false then strEq (sx i.toNat (10 : Nat)) nm else false) = true then (some ((i64 (i), []))) else (rounds (yPl fl) (kPl fl) mm ([((9 : Nat), none, i64 ((W (i + (1 : Int))))), ((8 : Nat), none, i64 ((↑n : Int))), ((7 : Nat), none, PV.one (PS.view n (12 : Nat) (rwj g sx jx))), ((4 : Nat), none, i64 ((0 : Int))), ((0 : Nat), none, PV.one (PS.view n (12 : Nat) (rwj g sx jx))), ((1 : Nat), none, PV.one (PS.str nm))]) ([]))))) else (some ((i64 ((-1 : Int)), [])))) := by kernel_rfl
theorem pl_nil (nm : ByteArray) : callF prog gl DS 1 O12 0 26 [.one .nils, .one (.str nm)] [] = (some ((i64 ((-1 : Int)), []))) := by kernel_rfl
/-- The first place with a name from i on. -/
def q_plF (g : Nat → Nat → Int) (sx : Nat → Nat → ByteArray) (nm : ByteArray) : Nat → Nat → Int
  | 0, _ => -1
  | r + 1, i => if (bif bif g i 1 == 0 then q_hp (sx i 10) plc else false then strEq (sx i 10) nm else false) = true then (i : Int) else q_plF g sx nm r (i + 1)
theorem plF_in {g : Nat → Nat → Int} {sx : Nat → Nat → ByteArray} {nm : ByteArray} : ∀ (r i : Nat), q_plF g sx nm r i = -1 ∨ 0 ≤ q_plF g sx nm r i ∧ q_plF g sx nm r i < ((i + r : Nat) : Int) := by
  intro r
  induction r with
  | zero => exact fun i => .inl rfl
  | succ r ih =>
    intro i
    unfold q_plF
    split
    · exact .inr (by omega)
    · rcases ih (i + 1) with h | h
      · exact .inl h
      · exact .inr (by omega)
theorem plF_cg {g g' : Nat → Nat → Int} {sx sx' : Nat → Nat → ByteArray} {nm : ByteArray} : ∀ (r i : Nat), (∀ k, k < i + r → g k 1 = g' k 1 ∧ sx k 10 = sx' k 10) → q_plF g sx nm r i = q_plF g' sx' nm r i := by
  intro r
  induction r with
  | zero => exact fun i _ => rfl
  | succ r ih =>
    intro i h
    unfold q_plF
    rw [(h i (by omega)).1, (h i (by omega)).2, ih (i + 1) (fun k hk => h k (by omega))]
def q_pl (n : Nat) (g : Nat → Nat → Int) (sx : Nat → Nat → ByteArray) (nm : ByteArray) : Int := q_plF g sx nm n 0
theorem pl_loop (fl n : Nat) (hn : n ≤ 1000000) (g : Nat → Nat → Int) (sx : Nat → Nat → ByteArray) (jx : Nat → Nat → PS) (nm : ByteArray) : ∀ (r i m : Nat), i + r = n → r < m → rounds (yPl fl) (kPl fl) m (hPl n (rwj g sx jx) nm (i : Nat)) [] = some (i64 (q_plF g sx nm r i), []) := by
  intro r
  induction r with
  | zero =>
    intro i m hi hm
    obtain ⟨m, rfl⟩ : ∃ m', m = m' + 1 := ⟨m - 1, by omega⟩
    rw [pl_st, if_neg (by simp <;> omega)]
    rfl
  | succ r ih =>
    intro i m hi hm
    obtain ⟨m, rfl⟩ : ∃ m', m = m' + 1 := ⟨m - 1, by omega⟩
    rw [pl_st, if_pos (by simp <;> omega), chk_true (by simp <;> omega), Int.toNat_natCast]
    unfold q_plF
    by_cases p : g i 1 = 0
    · rw [if_pos (by simpa using p)]
      by_cases e : (bif bif g i 1 == 0 then q_hp (sx i 10) plc else false then strEq (sx i 10) nm else false) = true
      · rw [if_pos e, if_pos e]
      · rw [if_neg e, if_neg e, W_nat (by omega)]
        exact ih (i + 1) m (by omega) (by omega)
    · rw [if_neg (by simpa using p), if_neg (by simp), if_neg (by simp [p]), W_nat (by omega)]
      exact ih (i + 1) m (by omega) (by omega)
noncomputable def O13 : Orac := addM 26 (fun nb vs H => match nb, vs, H with
  | 0, [.one (.view n 12 row), .one (.str nm)], [] => some (q_dec (q_isRw row ∧ n ≤ 100000), i64 (q_pl n (q_nu n row) (q_tx2 n row) nm), [])
  | 0, [.one .nils, .one (.str nm)], [] => some (true, i64 (-1), [])
  | _, _, _ => none) O12
theorem sO13 : Sound prog gl O13 := add_ok (D := DS) sO12 sO12 mo (fun nb vs H v H' h => by
  split at h
  · rename_i n row nm
    obtain ⟨h1, h2, h3⟩ : q_dec (q_isRw row ∧ n ≤ 100000) = true ∧ i64 (q_pl n (q_nu n row) (q_tx2 n row) nm) = v ∧ [] = H' := by simpa using h
    subst h2 h3
    obtain ⟨⟨g, sx, jx, rfl⟩, hn⟩ := q_dec_iff.1 h1
    refine ⟨n + 1, (pl_pre (n + 1) n _ nm).trans ?_⟩
    refine (pl_loop (n + 1) n (by omega) g sx jx nm n 0 (n + 1) (by omega) (by omega)).trans ?_
    rw [nu_rwj, tx_rwj]
    unfold q_pl
    rw [plF_cg (g' := g) (sx' := sx) n 0 (fun k hk => ⟨cutG_in (by omega) (by omega), by unfold cutS; rw [if_pos ⟨by omega, .inl rfl⟩]⟩)]
  · rename_i nm
    obtain ⟨h2, h3⟩ : i64 (-1) = v ∧ [] = H' := by simpa using h
    subst h2 h3
    exact ⟨1, pl_nil nm⟩
  · cases h)
end Go.Proofs.Ytobfnncpjkeloaa.Sh
