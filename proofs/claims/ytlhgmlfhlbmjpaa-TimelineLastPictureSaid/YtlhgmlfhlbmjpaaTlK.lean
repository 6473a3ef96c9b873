import Derived.Test.YtlhgmlfhlbmjpaaTlJ
namespace Go.Proofs.Ytlhgmlfhlbmjpaa.Sh
open Go Go.RowKit Go.Proofs.Ytlhgmlfhlbmjpaa.Ev Go.Proofs.Try
set_option maxRecDepth 100000
set_option linter.unusedVariables false
theorem app_rj0 (e : Nat) (R : Nat → Nat → PS) (l : List Int) (he : l.length = e) : ∃ J', appRow 0 R (litRow e (l.map (PS.int .i64))) = rj e (fun _ j => l.getD j 0) J' := by
  refine ⟨fun i j => .nilp, ?_⟩
  funext i j
  rw [appRow_eq]
  unfold rj litRow
  by_cases hj : j < e
  · simp [hj, he, List.getD_eq_getElem?_getD]
  · simp [hj, he, List.getD_eq_getElem?_getD]
theorem app_rb0 (R : Nat → Nat → PS) (x : Bool) : ∃ J', appRow 0 R (litRow 1 [.bool x]) = rb (fun _ => x) J' := by
  refine ⟨fun i j => .nilp, ?_⟩
  funext i j
  rw [appRow_eq]
  unfold rb litRow
  by_cases hj : j < 1
  · obtain rfl : j = 0 := by omega
    simp
  · obtain ⟨j, rfl⟩ : ∃ j', j = j' + 1 := ⟨j - 1, by omega⟩
    simp
theorem pr_in {n : Nat} {T : Nat → Nat → Int} (hT : TimeP n T) {c a : Int} (i : Nat) : 0 ≤ q_pr n T c a i ∧ q_pr n T c a i ≤ 1000 := by
  unfold q_pr
  split
  · rename_i h
    obtain ⟨⟨t1, t2⟩, t3, t4, t5⟩ := hT.2 i h
    by_cases hh : T i 0 < c ∨ (T i 0 = c ∧ T i 2 ≤ a)
    · unfold q_pg; rw [if_pos hh]; omega
    · by_cases h2 : c < T i 0 ∨ a ≤ T i 1
      · unfold q_pg; rw [if_neg hh, if_pos h2]; omega
      · refine pg_le ⟨by omega, by omega⟩
  · omega
theorem st_first (fl mm n : Nat) (g T : Nat → Nat → Int) (J : Nat → Nat → PS) (c a : Int) (hi : 0 < n) (hg : q_effP n g) (hT : TimeP n T) (ha : 0 ≤ a ∧ a ≤ 10000000) :
    ∃ B' b' J1' J2', StI g (q_pr n T c a) 1 1 B' b' ∧ rounds (ySt fl) (kSt fl) (mm + 1) (hSt n (rj 7 g J) .nils .nils c a ((0 : Nat) : Int)) [(36, .rows 44 3 n (q_row 3 T))] = rounds (ySt fl) (kSt fl) mm (hSt n (rj 7 g J) (.os 56) (.os 59) c a ((1 : Nat) : Int)) (bRow n 1 T B' b' J1' J2') := by
  have hn := hg.1
  obtain ⟨⟨t1, t2⟩, t3, t4, t5⟩ := hT.2 0 hi
  have hpg : q_pgP (T 0 0) (T 0 1) (T 0 2) c a := ⟨by omega, by omega⟩
  have hpe : q_pg (T 0 0) (T 0 1) (T 0 2) c a = q_pr n T c a 0 := by unfold q_pr; rw [if_pos hi]
  obtain ⟨_, _, _, _, _, a5, a6, _⟩ := hg.2 0 hi
  have h5 : q_ptP (g 0 5) (q_pr n T c a 0) := ⟨by omega, pr_in hT 0⟩
  have h6 : q_ptP (g 0 6) (q_pr n T c a 0) := ⟨by omega, pr_in hT 0⟩
  have hol : q_ol g 1 = [g 0 0] := rfl
  obtain ⟨J1', f1⟩ := app_rj0 4 (fun _ _ => .nilp) [g 0 0, 1000, 0, 0] rfl
  obtain ⟨J2', f2⟩ := app_rb0 (fun _ _ => .nilp) false
  have f1 : appRow 0 (fun _ _ => .nilp) (litRow 4 [PS.int .i64 (g 0 0), .int .i64 1000, .int .i64 0, .int .i64 0]) = rj 4 (fun _ j => [g 0 0, 1000, 0, 0].getD j 0) J1' := f1
  have hB' : AgB 1 (fun _ j => [g 0 0, 1000, 0, 0].getD j 0) (q_sB g (q_pr n T c a) 0 [g 0 0]) := fun r f hr hf => by
    obtain rfl : r = 0 := by omega
    rfl
  have key := up_item (p := q_pr n T c a) (k := 0) (l := 1) (i := 0) (L := [g 0 0]) (b := fun _ => false) (by rw [← hol]; exact ol_nodup g 1) rfl (by omega) rfl hB' (fun r hr => by
    obtain rfl : r = 0 := by omega
    rfl)
  refine ⟨?_, ?_, J1', J2', ?_, ?_⟩
  rotate_left 2
  · exact ⟨rfl, by rw [hol]; exact key.1, by rw [hol]; exact key.2⟩
  · rw [st_open, st_nil, if_pos (by simp <;> omega), chk_true (by simp <;> omega)]
    simp only [Int.toNat_natCast]
    rw [f1, f2]
    refine n_eq fl mm n g T _ _ (rj 7 g J) J1' J2' _ _ c a 0 hi hn _ hpe hpg h5 h6 ?_
    exact ⟨⟨(by decide : (-100000 : Int) ≤ 0), (by decide : (0 : Int) ≤ 100000)⟩, (by decide : (-100000 : Int) ≤ 0), (by decide : (0 : Int) ≤ 100000)⟩
theorem sm_B {n : Nat} {g : Nat → Nat → Int} (h : q_effP n g) {p : Nat → Int} : Small (q_ol g n).length (q_sB g p n (q_ol g n)) := fun r hr => by
  have e : q_sB g p n (q_ol g n) r 0 = (q_ol g n)[r] := by
    show (q_ol g n).getD r 0 = _
    exact getD_lt hr
  obtain ⟨j, hj, e2⟩ := ol_from n (List.getElem_mem hr)
  obtain ⟨a0, _⟩ := h.2 j hj
  omega
theorem st_eq (n : Nat) (g : Nat → Nat → Int) (J : Nat → Nat → PS) (c a : Int) (h0 : 0 < n) (hg : q_effP n (cut n 7 g)) (hc : 0 ≤ c ∧ c ≤ 200) (ha : 0 ≤ a ∧ a ≤ 10000000) :
    ∃ row, callF prog gl DS 15 O15 0 13 [.one (.view n 7 (rj 7 g J)), i64 c, i64 a] [] = some (.tup [.one (.os 0), i64 0], [(0, .rows 35 4 (q_ol g n).length (q_row 4 row))]) ∧ AgB (q_ol g n).length row (q_so (q_sB g (q_pr n (q_tm (cut n 7 g)) c a) n (q_ol g n)) (q_ol g n).length) := by
  have hg1 := effP_cut hg (Nat.le_refl n)
  have hT := tm_P hg
  have hn := hg.1
  rw [st_pre, num_rj, if_pos (q_dec_iff.2 ⟨⟨g, J, rfl⟩, hg⟩), if_neg (by simp <;> omega), if_pos (q_dec_iff.2 ⟨h0, ⟨g, J, rfl⟩, hg⟩)]
  generalize hTT : q_tm (cut n 7 g) = T at *
  obtain ⟨B, b, J1, J2, hI, e⟩ := st_first 15 14 n g T J c a h0 hg1 hT ha
  refine cast (congrArg (fun x => ∃ row, x = some (PV.tup [.one (.os 0), i64 0], [(0, OB.rows 35 4 (q_ol g n).length (q_row 4 row))]) ∧ AgB (q_ol g n).length row (q_so (q_sB g (q_pr n T c a) n (q_ol g n)) (q_ol g n).length)) e.symm) ?_
  refine loop_ex (body := ySt 15) (K := kSt 15) (σ := Nat × (Nat → Nat → Int) × (Nat → Bool) × (Nat → Nat → PS) × (Nat → Nat → PS)) (fun i _ => hSt n (rj 7 g J) (.os 56) (.os 59) c a ((i : Nat) : Int)) (fun i s => bRow n s.1 T s.2.1 s.2.2.1 s.2.2.2.1 s.2.2.2.2) (fun i s => StI g (q_pr n T c a) i s.1 s.2.1 s.2.2.1) n (Z := fun x => ∃ row, x = some (PV.tup [.one (.os 0), i64 0], [(0, OB.rows 35 4 (q_ol g n).length (q_row 4 row))]) ∧ AgB (q_ol g n).length row (q_so (q_sB g (q_pr n T c a) n (q_ol g n)) (q_ol g n).length)) ?_ ?_ 14 1 (1, B, b, J1, J2) (by omega) (by omega) hI
  · rintro i ⟨l, B, b, J1, J2⟩ mm hi hI
    obtain ⟨l', B', b', J1', J2', h1, h2⟩ := st_step 15 mm n l g T B b J J1 J2 c a i hi hg1 hT ha hI
    exact ⟨(l', B', b', J1', J2'), h1, h2⟩
  · rintro ⟨l, B, b, J1, J2⟩ mm hI
    obtain ⟨hl, hB, hb⟩ := hI
    have hl : l = (q_ol g n).length := hl
    have hll := ol_len g n
    have hpos : 0 < l := by
      have := List.length_pos_of_mem (ol_mem (g := g) n h0)
      omega
    have hB : AgB l B (q_sB g (q_pr n T c a) n (q_ol g n)) := hB
    have hs : Small l (cut l 4 B) := small_ag (fun i f hi hf => (cut_ag i f hi hf).trans (hB i f hi hf) |>.symm) (hl ▸ sm_B hg1)
    refine ⟨q_so (cut l 4 B) l, ?_, ?_⟩
    rotate_left
    · subst hl
      exact so_ag (fun i f hi hf => (cut_ag i f hi hf).trans (hB i f hi hf)) _ (Nat.le_refl _)
    · rw [st_open, st_row, if_neg (by simp)]
      refine (st_end 15 n l T B b (rj 7 g J) J1 J2 c a n).trans ?_
      rw [num_rj, if_pos (q_dec_iff.2 ⟨hpos, by omega, ⟨B, J1, rfl⟩, hs⟩)]
      subst hl
      rfl
end Go.Proofs.Ytlhgmlfhlbmjpaa.Sh
