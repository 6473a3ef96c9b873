import Derived.Test.YtgipgiejdbhpkaaDoorSxK
namespace Go.Proofs.YtgipgiejdbhpkaaDoor.Sh
open Go Go.RowKit Go.Proofs.YtgipgiejdbhpkaaDoor.Ev Go.Proofs.Tryd
set_option maxRecDepth 1000000
set_option linter.unusedVariables false
/-! alike -/
abbrev hAl (n m : Nat) (row r2 : Nat → Nat → PS) (s : PS) (a i : Int) : En := [(24, none, i64 i), (23, none, i64 m), (22, none, .one (.view m 1 r2)), (9, none, .one s), (8, none, i64 0), (7, none, i64 0), (6, none, .one .nils), (0, none, .one (.view n 12 row)), (1, none, .one (.view m 1 r2)), (2, none, i64 a)]
theorem al_one (fl mm n m : Nat) (g : Nat → Nat → Int) (sx : Nat → Nat → ByteArray) (jx : Nat → Nat → PS) (B : Nat → Nat → Int) (J : Nat → Nat → PS) (a : Int) : rounds (yAl fl) (kAl fl) (mm + 1) (hAl n m (rwj g sx jx) (rj 1 B J) .nils a 0) [] = (if (decide ((0 : Int) < (↑m : Int))) = true then (chk true (true && decide ((0 : Int) < (↑m : Int))) (if (q_dec (q_isRw (rwj g sx jx) ∧ n ≤ (100000 : Nat))) = true then (if (decide (q_fd n (q_nu n (rwj g sx jx)) (B (0 : Nat) (0 : Nat)) < (0 : Int))) = true then (some ((PV.tup [PV.one PS.nils, i64 ((7 : Int))], []))) else (if (q_dec (q_isJ (1 : Nat) (subRow none (0 : Nat) (rj (1 : Nat) B J)) ∧ (0 : Nat) ≤ (100000 : Nat))) = true then (chk true (decide ((0 : Int) ≤ q_fd n (q_nu n (rwj g sx jx)) (B (0 : Nat) (0 : Nat))) && decide (q_fd n (q_nu n (rwj g sx jx)) (B (0 : Nat) (0 : Nat)) < (↑n : Int))) (chk true (true && decide ((0 : Int) < (↑m : Int))) (if (q_dec (q_isRw (rwj g sx jx) ∧ n ≤ (100000 : Nat))) = true then (chk true (decide ((0 : Int) ≤ q_fd n (q_nu n (rwj g sx jx)) (B (0 : Nat) (0 : Nat))) && decide (q_fd n (q_nu n (rwj g sx jx)) (B (0 : Nat) (0 : Nat)) < (↑n : Int))) (if (g (q_fd n (q_nu n (rwj g sx jx)) (B (0 : Nat) (0 : Nat))).toNat (1 : Nat) != g (q_fd n (q_nu n (rwj g sx jx)) (B (0 : Nat) (0 : Nat))).toNat (1 : Nat)) = true then (some ((PV.tup [PV.one PS.nils, i64 ((14 : Int))], []))) else (rounds (yAl fl) (kAl fl) mm ([((24 : Nat), none, i64 ((1 : Int))), ((23 : Nat), none, i64 ((↑m : Int))), ((22 : Nat), none, PV.one (PS.view m (1 : Nat) (rj (1 : Nat) B J))), ((9 : Nat), none, PV.one (PS.os (57 : Nat))), ((8 : Nat), none, i64 ((0 : Int))), ((7 : Nat), none, i64 ((0 : Int))), ((6 : Nat), none, PV.one PS.nils), ((0 : Nat), none, PV.one (PS.view n (12 : Nat) (rwj g sx jx))), ((1 : Nat), none, PV.one (PS.view m (1 : Nat) (rj (1 : Nat) B J))), ((2 : Nat), none, i64 (a))]) ([((57 : Nat), OB.rows (3 : Nat) (1 : Nat) (1 : Nat) (appRow (0 : Nat) (fun _ _ ↦ PS.nilp) (litRow (1 : Nat) [PS.int IntKind.i64 (q_fd n (q_nu n (rwj g sx jx)) (B (0 : Nat) (0 : Nat)))])))])))) else none))) else none)) else none)) else none) := by kernel_rfl
theorem al_st (fl mm n m q : Nat) (g : Nat → Nat → Int) (sx : Nat → Nat → ByteArray) (jx : Nat → Nat → PS) (B C : Nat → Nat → Int) (J K : Nat → Nat → PS) (a i : Int) : rounds (yAl fl) (kAl fl) (mm + 1) (hAl n m (rwj g sx jx) (rj 1 B J) (.os 57) a i) [(57, .rows 3 1 q (rj 1 C K))] = (if (decide (i < (↑m : Int))) = true then (chk true (decide ((0 : Int) ≤ i) && decide (i < (↑m : Int))) (if (q_dec (q_isRw (rwj g sx jx) ∧ n ≤ (100000 : Nat))) = true then (if (decide (q_fd n (q_nu n (rwj g sx jx)) (B i.toNat (0 : Nat)) < (0 : Int))) = true then (some ((PV.tup [PV.one PS.nils, i64 ((7 : Int))], []))) else (chk true (true && (decide ((0 : Int) ≤ i) && decide (i ≤ (↑m : Int)))) (if (q_dec (q_isJ (1 : Nat) (subRow none (0 : Nat) (rj (1 : Nat) B J)) ∧ i.toNat - (0 : Nat) ≤ (100000 : Nat))) = true then (if (decide (q_fd (i.toNat - (0 : Nat)) (q_num (i.toNat - (0 : Nat)) (1 : Nat) (subRow none (0 : Nat) (rj (1 : Nat) B J))) (B i.toNat (0 : Nat)) ≥ (0 : Int))) = true then (some ((PV.tup [PV.one PS.nils, i64 ((6 : Int))], []))) else (chk true (decide ((0 : Int) ≤ q_fd n (q_nu n (rwj g sx jx)) (B i.toNat (0 : Nat))) && decide (q_fd n (q_nu n (rwj g sx jx)) (B i.toNat (0 : Nat)) < (↑n : Int))) (chk true (true && decide ((0 : Int) < (↑m : Int))) (if (q_dec (q_isRw (rwj g sx jx) ∧ n ≤ (100000 : Nat))) = true then (chk true (decide ((0 : Int) ≤ q_fd n (q_nu n (rwj g sx jx)) (B (0 : Nat) (0 : Nat))) && decide (q_fd n (q_nu n (rwj g sx jx)) (B (0 : Nat) (0 : Nat)) < (↑n : Int))) (if (g (q_fd n (q_nu n (rwj g sx jx)) (B i.toNat (0 : Nat))).toNat (1 : Nat) != g (q_fd n (q_nu n (rwj g sx jx)) (B (0 : Nat) (0 : Nat))).toNat (1 : Nat)) = true then (some ((PV.tup [PV.one PS.nils, i64 ((14 : Int))], []))) else (if (true && (decide (q + (1 : Nat) ≤ (9223372036854775807 : Nat)) && decide ((q + (1 : Nat)) * (8 : Nat) ≤ (140737488355328 : Nat)))) = true then (rounds (yAl fl) (kAl fl) mm ([((24 : Nat), none, i64 ((W (i + (1 : Int))))), ((23 : Nat), none, i64 ((↑m : Int))), ((22 : Nat), none, PV.one (PS.view m (1 : Nat) (rj (1 : Nat) B J))), ((9 : Nat), none, PV.one (PS.os (57 : Nat))), ((8 : Nat), none, i64 ((0 : Int))), ((7 : Nat), none, i64 ((0 : Int))), ((6 : Nat), none, PV.one PS.nils), ((0 : Nat), none, PV.one (PS.view n (12 : Nat) (rwj g sx jx))), ((1 : Nat), none, PV.one (PS.view m (1 : Nat) (rj (1 : Nat) B J))), ((2 : Nat), none, i64 (a))]) ([((57 : Nat), OB.rows (3 : Nat) (1 : Nat) (q + (1 : Nat)) (appRow q (rj (1 : Nat) C K) (litRow (1 : Nat) [PS.int IntKind.i64 (q_fd n (q_nu n (rwj g sx jx)) (B i.toNat (0 : Nat)))])))])) else none))) else none)))) else none))) else none)) else (if (q_dec ((0 : Nat) < q ∧ q ≤ (12 : Nat) ∧ q_isJ (1 : Nat) (rj (1 : Nat) C K))) = true then (some ((PV.tup [PV.one (PS.os (0 : Nat)), i64 ((0 : Int))], [((0 : Nat), OB.rows (3 : Nat) (1 : Nat) q (q_row (1 : Nat) (q_so (q_num q (1 : Nat) (rj (1 : Nat) C K)) q)))]))) else none)) := by kernel_rfl
def q_al1 (n : Nat) (g : Nat → Nat → Int) (B : Nat → Nat → Int) (i : Nat) : Int := if q_fd n g (B i 0) < 0 then 7 else if 0 ≤ q_fd i B (B i 0) then 6 else if g (q_fd n g (B i 0)).toNat 1 ≠ g (q_fd n g (B 0 0)).toNat 1 then 14 else 0
/-- Where the items stand. -/
def q_pos (n : Nat) (g : Nat → Nat → Int) (B : Nat → Nat → Int) : Nat → Nat → Int := fun i _ => q_fd n g (B i 0)
theorem al_step (fl mm n m i : Nat) (g : Nat → Nat → Int) (sx : Nat → Nat → ByteArray) (jx : Nat → Nat → PS) (B C : Nat → Nat → Int) (J K : Nat → Nat → PS) (a : Int) (hi0 : 0 < i) (hi : i < m) (hm : m ≤ 12) (hn : n ≤ 1000) (h0 : 0 ≤ q_fd n g (B 0 0)) (h : q_al1 n g B i = 0) :
    ∃ K', rounds (yAl fl) (kAl fl) (mm + 1) (hAl n m (rwj g sx jx) (rj 1 B J) (.os 57) a (i : Nat)) [(57, .rows 3 1 i (rj 1 C K))] = rounds (yAl fl) (kAl fl) mm (hAl n m (rwj g sx jx) (rj 1 B J) (.os 57) a ((i + 1 : Nat) : Int)) [(57, .rows 3 1 (i + 1) (rj 1 (appB i C [q_fd n g (B i 0)]) K'))] := by
  have e : ∀ x, q_fd n (q_nu n (rwj g sx jx)) x = q_fd n g x := fun x => by rw [nu_rwj]; exact fd_cg (fun k hk => cutG_in hk (by omega))
  have e2 : q_fd i (q_num i 1 (subRow none 0 (rj 1 B J))) (B i 0) = q_fd i B (B i 0) := fd_cg (fun k hk => by
    have : q_num i 1 (subRow none 0 (rj 1 B J)) = cut i 1 B := num_rj
    rw [this]; exact cut_in hk (by omega))
  have r1 := fd_rng n g (B i 0)
  have r0 := fd_rng n g (B 0 0)
  unfold q_al1 at h
  split at h
  · omega
  · rename_i p1
    split at h
    · omega
    · rename_i p2
      split at h
      · omega
      · rename_i p3
        have p3 : g (q_fd n g (B i 0)).toNat 1 = g (q_fd n g (B 0 0)).toNat 1 := by simpa using p3
        obtain ⟨K', e3⟩ := app_rj 1 i C K [q_fd n g (B i 0)] rfl
        refine ⟨K', ?_⟩
        rw [al_st]
        simp only [e, Int.toNat_natCast, Nat.sub_zero, e2]
        rw [if_pos (by simp <;> omega), chk_true (by simp <;> omega), if_pos (q_dec_iff.2 ⟨⟨g, sx, jx, rfl⟩, by omega⟩), if_neg (by simpa using p1), chk_true (by simp <;> omega), if_pos (q_dec_iff.2 ⟨⟨B, J, rfl⟩, by omega⟩), if_neg (by simpa using p2), chk_true (by simp <;> omega), chk_true (by simp <;> omega), if_pos (q_dec_iff.2 ⟨⟨g, sx, jx, rfl⟩, by omega⟩), chk_true (by simp <;> omega), if_neg (by simp [p3]), if_pos (by simp <;> omega), W_nat (by omega)]
        exact congrArg (fun z => rounds (yAl fl) (kAl fl) mm (hAl n m (rwj g sx jx) (rj 1 B J) (.os 57) a ((i + 1 : Nat) : Int)) [(57, .rows 3 1 (i + 1) z)]) e3
theorem al_eq (n m : Nat) (g : Nat → Nat → Int) (sx : Nat → Nat → ByteArray) (jx : Nat → Nat → PS) (B : Nat → Nat → Int) (J : Nat → Nat → PS) (hn : q_chk n g = 0) (hm0 : 0 < m) (hm : m ≤ 12) (h : ∀ i, i < m → q_al1 n g B i = 0) :
    ∃ C, callF prog gl DS 14 O20 0 23 [.one (.view n 12 (rwj g sx jx)), .one (.view m 1 (rj 1 B J)), i64 1] [] = some (.tup [.one (.os 0), i64 0], [(0, .rows 3 1 m (q_row 1 C))]) ∧ AgB m C (q_so (q_pos n g B) m) := by
  have hn1 := (chk_ok_iff hn).1
  have e : ∀ x, q_fd n (q_nu n (rwj g sx jx)) x = q_fd n g x := fun x => by rw [nu_rwj]; exact fd_cg (fun k hk => cutG_in hk (by omega))
  have ec : q_chk n (q_nu n (rwj g sx jx)) = 0 := by rw [nu_rwj, chk_cg (g' := g) (fun k j hk hj => cutG_in hk hj)]; exact hn
  have h00 := h 0 hm0
  have r0 := fd_rng n g (B 0 0)
  have p0 : 0 ≤ q_fd n g (B 0 0) := by
    unfold q_al1 at h00
    split at h00
    · omega
    · omega
  rw [al_pre, ec, if_pos (q_dec_iff.2 ⟨⟨g, sx, jx, rfl⟩, by omega⟩), if_neg (by simp), if_neg (by simp; omega)]
  have one := al_one 14 13 n m g sx jx B J 1
  simp only [e] at one
  rw [if_pos (by simp <;> omega), chk_true (by simp <;> omega), if_pos (q_dec_iff.2 ⟨⟨g, sx, jx, rfl⟩, by omega⟩), if_neg (by simp; omega), if_pos (q_dec_iff.2 ⟨⟨B, J, rfl⟩, by omega⟩), chk_true (by simp <;> omega), chk_true (by simp <;> omega), if_pos (q_dec_iff.2 ⟨⟨g, sx, jx, rfl⟩, by omega⟩), chk_true (by simp <;> omega), if_neg (by simp)] at one
  refine (congrArg (fun z => ∃ C, z = some (PV.tup [.one (.os 0), i64 0], [(0, OB.rows 3 1 m (q_row 1 C))]) ∧ AgB m C (q_so (q_pos n g B) m)) one).mpr ?_
  obtain ⟨K1, e1⟩ := app_rj 1 0 (fun _ _ => 0) (fun _ _ => .nilp) [q_fd n g (B 0 0)] rfl
  have e1' : appRow 0 (fun _ _ => PS.nilp) (litRow 1 [PS.int .i64 (q_fd n g (B 0 0))]) = rj 1 (appB 0 (fun _ _ => 0) [q_fd n g (B 0 0)]) K1 := by
    rw [← e1]; funext i j; rw [appRow_eq, appRow_eq, if_neg (by omega), if_neg (by omega)]; rfl
  rw [e1']
  refine loop_ex (body := yAl 14) (K := kAl 14) (σ := (Nat → Nat → Int) × (Nat → Nat → PS)) (fun i _ => hAl n m (rwj g sx jx) (rj 1 B J) (.os 57) 1 ((i : Nat) : Int)) (fun i s => [(57, .rows 3 1 i (rj 1 s.1 s.2))]) (fun i s => 1 ≤ i ∧ AgB i s.1 (q_pos n g B)) m (Z := fun x => ∃ C, x = some (PV.tup [.one (.os 0), i64 0], [(0, OB.rows 3 1 m (q_row 1 C))]) ∧ AgB m C (q_so (q_pos n g B) m)) ?_ ?_ 13 1 (_, _) (by omega) (by omega) ⟨by omega, fun i hi => ?_⟩
  · rintro i ⟨C, K⟩ mm hi ⟨h1, hA⟩
    obtain ⟨K', e2⟩ := al_step 14 mm n m i g sx jx B C J K 1 (by omega) hi hm hn1 p0 (h i hi)
    refine ⟨(_, K'), ⟨by omega, fun k hk => ?_⟩, e2⟩
    show appB i C [q_fd n g (B i 0)] k 0 = q_pos n g B k 0
    unfold appB
    by_cases c : k < i
    · rw [if_pos c]; exact hA k c
    · rw [if_neg c]
      obtain rfl : k = i := by omega
      rfl
  · rintro ⟨C, K⟩ mm ⟨h1, hA⟩
    refine ⟨q_so (cut m 1 C) m, ?_, so_ag (fun i hi => (cut_ag i hi).trans (hA i hi)) m (Nat.le_refl m)⟩
    rw [al_st, if_neg (by simp), if_pos (q_dec_iff.2 ⟨hm0, hm, ⟨C, K, rfl⟩⟩), num_rj]
  · obtain rfl : i = 0 := by omega
    rfl
def q_alP (n m : Nat) (row r2 : Nat → Nat → PS) : Prop := (q_isRw row ∧ q_chk n (q_nu n row) = 0 ∧ n ≤ 1000) ∧ (0 < m ∧ m ≤ 12 ∧ q_isJ 1 r2) ∧ ∀ i, i < m → q_al1 n (q_nu n row) (q_num m 1 r2) i = 0
theorem so_cg {m : Nat} {A B : Nat → Nat → Int} (h : AgB m A B) : AgB m (q_so A m) (q_so B m) := so_ag h m (Nat.le_refl m)
theorem al1_cg {n m : Nat} {g g' : Nat → Nat → Int} {B B' : Nat → Nat → Int} (hg : ∀ k j, k < n → j < 10 → g k j = g' k j) (hB : ∀ k, k < m → B k 0 = B' k 0) {i : Nat} (hi : i < m) : q_al1 n g B i = q_al1 n g' B' i := by
  have e1 : ∀ x, q_fd n g x = q_fd n g' x := fun x => fd_cg (fun k hk => hg k 0 hk (by omega))
  have r1 := fd_rng n g' (B' i 0)
  have r0 := fd_rng n g' (B' 0 0)
  unfold q_al1
  rw [hB i hi, hB 0 (by omega), e1, e1, fd_cg (g' := B') (fun k hk => hB k (by omega))]
  by_cases h1 : q_fd n g' (B' i 0) < 0
  · rw [if_pos h1, if_pos h1]
  · rw [if_neg h1, if_neg h1, hg _ 1 (by omega) (by omega)]
    by_cases hn : 0 < n
    · rw [hg (q_fd n g' (B' 0 0)).toNat 1 (by omega) (by omega)]
    · omega
noncomputable def O21 : Orac := addM 23 (fun nb vs H => match nb, vs, H with
  | 0, [.one (.view n 12 row), .one (.view m 1 r2), .one (.int .i64 1)], [] => some (q_dec (q_alP n m row r2), .tup [.one (.os 0), i64 0], [(0, .rows 3 1 m (q_row 1 (q_so (q_pos n (q_nu n row) (q_num m 1 r2)) m)))])
  | _, _, _ => none) O20
theorem sO21 : Sound prog gl O21 := add_ag (D := DS) sO20 sO20 mo (fun nb vs H v H' h => by
  split at h
  · rename_i n row m r2
    obtain ⟨h1, h2, h3⟩ : q_dec (q_alP n m row r2) = true ∧ .tup [.one (.os 0), i64 0] = v ∧ [(0, OB.rows 3 1 m (q_row 1 (q_so (q_pos n (q_nu n row) (q_num m 1 r2)) m)))] = H' := by simpa using h
    subst h2 h3
    obtain ⟨⟨⟨g, sx, jx, rfl⟩, hc, hn⟩, ⟨h0, hm, ⟨B, J, rfl⟩⟩, hal⟩ := q_dec_iff.1 h1
    rw [nu_rwj] at hc hal
    rw [num_rj] at hal
    have hc' : q_chk n g = 0 := by rw [← hc]; exact (chk_cg (fun k j hk hj => cutG_in hk hj)).symm
    obtain ⟨C, e1, e2⟩ := al_eq n m g sx jx B J hc' h0 hm (fun i hi => by
      rw [← hal i hi]; exact (al1_cg (fun k j hk hj => cutG_in hk hj) (fun k hk => cut_in hk (by omega)) hi).symm)
    refine ⟨14, _, _, e1, agV_refl _, .inr ⟨0, _, 1, m, _, _, [], rfl, rfl, rj_ag (fun i f hi hf => ?_), fun p hp => nomatch hp⟩⟩
    obtain rfl : f = 0 := by omega
    rw [nu_rwj, num_rj, e2 i hi]
    refine (so_cg (fun k hk => ?_) i hi).symm
    show q_fd n (cutG n g) (cut m 1 B k 0) = q_fd n g (B k 0)
    rw [cut_in hk (by omega)]
    exact fd_cg (fun k hk => cutG_in hk (by omega))
  · cases h)
end Go.Proofs.YtgipgiejdbhpkaaDoor.Sh
