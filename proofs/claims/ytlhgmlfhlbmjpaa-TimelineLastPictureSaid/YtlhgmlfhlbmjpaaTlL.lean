import Derived.Test.YtlhgmlfhlbmjpaaTlK
namespace Go.Proofs.Ytlhgmlfhlbmjpaa.Sh
open Go Go.RowKit Go.Proofs.Ytlhgmlfhlbmjpaa.Ev Go.Proofs.Try
set_option maxRecDepth 100000
set_option linter.unusedVariables false
/-! State's table -/
def AgG (n : Nat) (g g' : Nat → Nat → Int) : Prop := ∀ i f, i < n → f < 7 → g i f = g' i f
theorem cutG {n : Nat} {g : Nat → Nat → Int} : AgG n (cut n 7 g) g := fun i f hi hf => cut_in hi hf
theorem ol_cg {n : Nat} {g g' : Nat → Nat → Int} (h : AgG n g g') : ∀ i, i ≤ n → q_ol g i = q_ol g' i := by
  intro i
  induction i with
  | zero => intro _; rfl
  | succ i ih => intro hi; simp only [q_ol]; rw [ih (by omega), h i 0 (by omega) (by omega)]
theorem kn_cg {n : Nat} {g g' : Nat → Nat → Int} (h : AgG n g g') (v : Int) : ∀ i, i ≤ n → q_kn g v i = q_kn g' v i := by
  intro i
  induction i with
  | zero => intro _; rfl
  | succ i ih => intro hi; simp only [q_kn]; rw [ih (by omega), h i 0 (by omega) (by omega), h i 1 (by omega) (by omega)]
theorem se_cg {n : Nat} {g g' : Nat → Nat → Int} (h : AgG n g g') (p : Nat → Int) (v : Int) : ∀ i, i ≤ n → q_se g p v i = q_se g' p v i := by
  intro i
  induction i with
  | zero => intro _; rfl
  | succ i ih => intro hi; simp only [q_se]; rw [ih (by omega), h i 0 (by omega) (by omega), h i 1 (by omega) (by omega), kn_cg h v i (by omega)]
theorem sx_cg {n : Nat} {g g' : Nat → Nat → Int} (h : AgG n g g') (p : Nat → Int) {o : Nat} (ho : o < 7) (v : Int) : ∀ i, i ≤ n → q_sx g p o v i = q_sx g' p o v i := by
  intro i
  induction i with
  | zero => intro _; rfl
  | succ i ih => intro hi; simp only [q_sx]; rw [ih (by omega), h i 0 (by omega) (by omega), h i 1 (by omega) (by omega), h i o (by omega) ho]
theorem sB_cg {n : Nat} {g g' : Nat → Nat → Int} (h : AgG n g g') (p : Nat → Int) (L : List Int) : q_sB g p n L = q_sB g' p n L := by
  funext r f
  unfold q_sB q_it
  rw [se_cg h p _ n (Nat.le_refl n), sx_cg h p (by omega) _ n (Nat.le_refl n), sx_cg h p (by omega) _ n (Nat.le_refl n)]
/-- What State answers: how many items, their states. -/
def q_sn (n : Nat) (g : Nat → Nat → Int) : Nat := (q_ol g n).length
def q_st (n : Nat) (g : Nat → Nat → Int) (c a : Int) : Nat → Nat → Int := q_so (q_sB g (q_pr n (q_tm g) c a) n (q_ol g n)) (q_sn n g)
theorem st_ag (n : Nat) (g : Nat → Nat → Int) (J : Nat → Nat → PS) (c a : Int) (h0 : 0 < n) (hg : q_effP n (cut n 7 g)) (hc : 0 ≤ c ∧ c ≤ 200) (ha : 0 ≤ a ∧ a ≤ 10000000) :
    ∃ row, callF prog gl DS 15 O15 0 13 [.one (.view n 7 (rj 7 g J)), i64 c, i64 a] [] = some (.tup [.one (.os 0), i64 0], [(0, .rows 35 4 (q_sn n (cut n 7 g)) (q_row 4 row))]) ∧ AgB (q_sn n (cut n 7 g)) row (q_st n (cut n 7 g) c a) := by
  obtain ⟨row, e1, e2⟩ := st_eq n g J c a h0 hg hc ha
  unfold q_st q_sn
  rw [ol_cg cutG n (Nat.le_refl n), sB_cg cutG]
  exact ⟨row, e1, e2⟩
noncomputable def aSt : Nat → List PV → Heap → Option (Bool × PV × Heap)
  | 0, [.one (.view n 7 row), .one (.int .i64 c), .one (.int .i64 a)], [] => some (q_dec (0 < n ∧ q_isJ 7 row ∧ q_effP n (q_num n 7 row) ∧ (0 ≤ c ∧ c ≤ 200) ∧ 0 ≤ a ∧ a ≤ 10000000), .tup [.one (.os 0), i64 0], [(0, .rows 35 4 (q_sn n (q_num n 7 row)) (q_row 4 (q_st n (q_num n 7 row) c a)))])
  | _, _, _ => none
noncomputable def O16 : Orac := addM 13 aSt O15
theorem sO16 : Sound prog gl O16 := add_ag (D := DS) sO15 sO15 mo (fun nb vs H v H' h => by
  unfold aSt at h
  split at h
  · rename_i n row c a
    obtain ⟨h1, h2, h3⟩ : q_dec (0 < n ∧ q_isJ 7 row ∧ q_effP n (q_num n 7 row) ∧ (0 ≤ c ∧ c ≤ 200) ∧ 0 ≤ a ∧ a ≤ 10000000) = true ∧ .tup [.one (.os 0), i64 0] = v ∧ [(0, OB.rows 35 4 (q_sn n (q_num n 7 row)) (q_row 4 (q_st n (q_num n 7 row) c a)))] = H' := by simpa using h
    subst h2 h3
    obtain ⟨h0, ⟨g, J, rfl⟩, hg, hc, ha⟩ := q_dec_iff.1 h1
    rw [num_rj] at hg
    obtain ⟨row, e1, e2⟩ := st_ag n g J c a h0 hg hc ha
    rw [num_rj]
    exact ⟨15, _, _, e1, agV_refl _, .inr ⟨0, _, 4, _, _, _, [], rfl, rfl, rj_ag (fun i f hi hf => e2 i f hi hf), fun p hp => nomatch hp⟩⟩
  · cases h)
/-! timed -/
theorem sTd : Sound prog gl (upM (callF prog gl noD 10 (upM (callF prog gl noD 10 (upM (callF prog gl noD 10 noM)))))) := callF_ok (callF_ok (callF_ok none_ok mo 10) mo 10) mo 10
theorem td_raw  : callF prog gl noD 10 (upM (callF prog gl noD 10 (upM (callF prog gl noD 10 (upM (callF prog gl noD 10 noM)))))) 0 9 [] [] = (some ((PV.one (PS.bool true), []))) := by kernel_rfl
noncomputable def O17 : Orac := addM 9 (fun nb vs H => match nb, vs, H with
  | 0, [], [] => some (true, bl true, [])
  | _, _, _ => none) O16
theorem sO17 : Sound prog gl O17 := add_ok (D := noD) sO16 sTd mo (fun nb vs H v H' h => by
  split at h
  · obtain ⟨h1, h2⟩ : bl true = v ∧ [] = H' := by simpa using h
    subst h1 h2
    exact ⟨10, td_raw⟩
  · cases h)
end Go.Proofs.Ytlhgmlfhlbmjpaa.Sh
