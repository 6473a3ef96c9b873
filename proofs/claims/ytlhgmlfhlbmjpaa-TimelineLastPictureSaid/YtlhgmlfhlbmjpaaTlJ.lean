import Derived.Test.YtlhgmlfhlbmjpaaTlI
namespace Go.Proofs.Ytlhgmlfhlbmjpaa.Sh
open Go Go.RowKit Go.Proofs.Ytlhgmlfhlbmjpaa.Ev Go.Proofs.Try
set_option maxRecDepth 100000
set_option linter.unusedVariables false
theorem st_open (fl mm : Nat) (E : En) (H : Heap) : rounds (ySt fl) (kSt fl) (mm + 1) E H = cwAt prog gl O15 DS [] f13 3 0 fl (putAt sSt cSt (codeAt sSt cSt)) E H (kRound (ySt fl) (kSt fl) mm E H) := by kernel_rfl
theorem st_end (fl n l : Nat) (T B : Nat → Nat → Int) (b : Nat → Bool) (A J1 J2 : Nat → Nat → PS) (c a i : Int) : kSt fl (.exit 0) [(39, none, i64 i), (38, none, i64 n), (37, none, .one (.view n 7 A)), (11, none, .one (.os 36)), (10, none, .one (.os 59)), (9, none, .one (.os 56)), (8, none, i64 0), (7, none, i64 0), (6, none, .one .nils), (0, none, .one (.view n 7 A)), (1, none, i64 c), (2, none, i64 a)] (bRow n l T B b J1 J2) = (if (q_dec ((0 : Nat) < l ∧ l ≤ (12 : Nat) ∧ q_isJ (4 : Nat) (rj (4 : Nat) B J1) ∧ ∀ (i : Nat), i < l → (-1000 : Int) ≤ q_num l (4 : Nat) (rj (4 : Nat) B J1) i (0 : Nat) ∧ q_num l (4 : Nat) (rj (4 : Nat) B J1) i (0 : Nat) ≤ (1000 : Int))) = true then (some ((PV.tup [PV.one (PS.os (0 : Nat)), i64 ((0 : Int))], [((0 : Nat), OB.rows (35 : Nat) (4 : Nat) l (q_row (4 : Nat) (q_so (q_num l (4 : Nat) (rj (4 : Nat) B J1)) l)))]))) else none) := by kernel_rfl
/-- How much of each effect has happened. -/
def q_pr (n : Nat) (T : Nat → Nat → Int) (c a : Int) : Nat → Int := fun i => if i < n then q_pg (T i 0) (T i 1) (T i 2) c a else 0
theorem pg_le {a b c d e : Int} (h : q_pgP a b c d e) : 0 ≤ q_pg a b c d e ∧ q_pg a b c d e ≤ 1000 := by
  obtain ⟨⟨b1, b2, b3⟩, e1, e2⟩ := h
  unfold q_pg
  split
  · omega
  · rename_i h1
    split
    · omega
    · rename_i h2
      have hc : a = d := by omega
      have hb : b < e := by omega
      have hce : e < c := by
        rcases Int.lt_or_le e c with q | q
        · exact q
        · exact absurd (.inr ⟨hc, q⟩) h1
      refine ⟨Int.ediv_nonneg (by omega) (by omega), ?_⟩
      have : (1000 * (e - b)) / (c - b) < 1001 := Int.ediv_lt_of_lt_mul (by omega) (by omega)
      omega
/-- While the effects are gone through. -/
def StI (g : Nat → Nat → Int) (p : Nat → Int) (i l : Nat) (B : Nat → Nat → Int) (b : Nat → Bool) : Prop := l = (q_ol g i).length ∧ AgB l B (q_sB g p i (q_ol g i)) ∧ ∀ r, r < l → b r = q_kn g ((q_ol g i).getD r 0) i
theorem sx_le {n : Nat} {g : Nat → Nat → Int} (h : q_effP n g) {p : Nat → Int} (hp : ∀ i, 0 ≤ p i ∧ p i ≤ 1000) {o : Nat} (ho : o = 5 ∨ o = 6) (v : Int) : ∀ i, i ≤ n → -1000 * (i : Int) ≤ q_sx g p o v i ∧ q_sx g p o v i ≤ 1000 * i := by
  intro i
  induction i with
  | zero => intro _; simp [q_sx]
  | succ i ih =>
    intro hi
    have h1 := ih (by omega)
    obtain ⟨_, _, _, _, _, a5, a6, _⟩ := h.2 i (by omega)
    have h2 : q_ptP (g i o) (p i) := by rcases ho with rfl | rfl <;> exact ⟨by omega, hp i⟩
    have h3 := pt_le h2
    simp only [q_sx]
    split <;> omega
theorem getD_lt {l : List Int} {k : Nat} (h : k < l.length) : l.getD k 0 = l[k] := by simp [List.getD_eq_getElem?_getD, h]
theorem st_step (fl mm n l : Nat) (g T B : Nat → Nat → Int) (b : Nat → Bool) (J J1 J2 : Nat → Nat → PS) (c a : Int) (i : Nat) (hi : i < n) (hg : q_effP n g) (hT : TimeP n T) (ha : 0 ≤ a ∧ a ≤ 10000000) (hI : StI g (q_pr n T c a) i l B b) :
    ∃ l' B' b' J1' J2', StI g (q_pr n T c a) (i + 1) l' B' b' ∧ rounds (ySt fl) (kSt fl) (mm + 1) (hSt n (rj 7 g J) (.os 56) (.os 59) c a i) (bRow n l T B b J1 J2) = rounds (ySt fl) (kSt fl) mm (hSt n (rj 7 g J) (.os 56) (.os 59) c a ((i + 1 : Nat) : Int)) (bRow n l' T B' b' J1' J2') := by
  obtain ⟨hl, hB, hb⟩ := hI
  have hn := hg.1
  have hl12 : l ≤ 12 := by have := ol_len g i; omega
  obtain ⟨⟨t1, t2⟩, t3, t4, t5⟩ := hT.2 i hi
  have hpg : q_pgP (T i 0) (T i 1) (T i 2) c a := ⟨by omega, by omega⟩
  have hpe : q_pg (T i 0) (T i 1) (T i 2) c a = q_pr n T c a i := by unfold q_pr; rw [if_pos hi]
  have hp : ∀ i, 0 ≤ q_pr n T c a i ∧ q_pr n T c a i ≤ 1000 := fun i => by
    unfold q_pr
    split
    · rename_i h
      obtain ⟨⟨t1, t2⟩, t3, t4, t5⟩ := hT.2 i h
      exact pg_le ⟨by omega, by omega⟩
    · omega
  obtain ⟨_, _, _, _, _, a5, a6, _⟩ := hg.2 i hi
  have h5 : q_ptP (g i 5) (q_pr n T c a i) := ⟨by omega, hp i⟩
  have h6 : q_ptP (g i 6) (q_pr n T c a i) := ⟨by omega, hp i⟩
  generalize hpp : q_pr n T c a = p at *
  have x5 := fun v => sx_le hg hp (o := 5) (.inl rfl) v i (by omega)
  have x6 := fun v => sx_le hg hp (o := 6) (.inr rfl) v i (by omega)
  have hnd := ol_nodup g (i + 1)
  rw [st_open, st_row, if_pos (by simp <;> omega), chk_true (by simp <;> omega), if_pos (q_dec_iff.2 ⟨⟨B, J1, rfl⟩, by omega⟩), num_rj, Int.toNat_natCast]
  have item : ∀ r, r < l → B r 0 = (q_ol g i).getD r 0 := fun r hr => hB r 0 hr (by omega)
  rcases ixF_spec (cut l 4 B) (g i 0) l 0 with ⟨e1, e2⟩ | ⟨k, _, e2, e3, e4, e5⟩
  · -- a new item
    have e1 : q_ix l (cut l 4 B) (g i 0) = -1 := e1
    have hnew : g i 0 ∉ q_ol g i := fun hm => by
      obtain ⟨k, hk, e⟩ := List.getElem_of_mem hm
      have hkl : k < l := by omega
      refine e2 k (by omega) (by omega) ?_
      rw [cut_in hkl (by omega), item k hkl, getD_lt hk]
      exact e
    have hol : q_ol g (i + 1) = q_ol g i ++ [g i 0] := by simp only [q_ol]; rw [if_neg hnew]
    rw [e1, if_pos (by decide), if_pos (by simp <;> omega), if_pos (by simp <;> omega)]
    obtain ⟨J1', f1⟩ := app_rj 4 l B J1 [g i 0, 1000, 0, 0] rfl
    obtain ⟨J2', f2⟩ := app_rb l b J2 false
    have f1 : appRow l (rj 4 B J1) (litRow 4 [PS.int .i64 (g i 0), .int .i64 1000, .int .i64 0, .int .i64 0]) = rj 4 (appB l B [g i 0, 1000, 0, 0]) J1' := f1
    rw [f1, f2]
    have hlen : (q_ol g i ++ [g i 0]).length = l + 1 := by rw [List.length_append, ← hl]; rfl
    have hlast : (q_ol g i ++ [g i 0]).getD l 0 = g i 0 := by
      rw [getD_lt (by omega)]
      simp [hl]
    have hfirst : ∀ r, r < l → (q_ol g i ++ [g i 0]).getD r 0 = (q_ol g i).getD r 0 := fun r hr => by
      rw [getD_lt (by omega), getD_lt (by omega), List.getElem_append_left (by omega)]
    have hno : ∀ j, j < i → g j 0 ≠ g i 0 := fun j hj e => hnew (e ▸ ol_mem i hj)
    obtain ⟨n1, n2, n3, n4⟩ := new_item (p := p) i hno
    have hB' : AgB (l + 1) (appB l B [g i 0, 1000, 0, 0]) (q_sB g p i (q_ol g i ++ [g i 0])) := fun r f hr hf => by
      unfold appB q_sB
      by_cases hrl : r < l
      · rw [if_pos hrl, hfirst r hrl]; exact hB r f hrl hf
      · obtain rfl : r = l := by omega
        rw [if_neg hrl, hlast]
        unfold q_it
        rw [n1, n2, n3]
    have hb' : ∀ r, r < l + 1 → (if r < l then b r else false) = q_kn g ((q_ol g i ++ [g i 0]).getD r 0) i := fun r hr => by
      by_cases hrl : r < l
      · rw [if_pos hrl, hfirst r hrl]; exact hb r hrl
      · obtain rfl : r = l := by omega
        rw [if_neg hrl, hlast, n4]
    have key := up_item (p := p) (k := l) (by rw [← hol]; exact hnd) hlen (by omega) hlast hB' hb'
    refine ⟨l + 1, ?_, ?_, J1', J2', ?_, ?_⟩
    rotate_left 2
    · exact ⟨by rw [hol, hlen], by rw [hol]; exact key.1, by rw [hol]; exact key.2⟩
    · refine (a_eq fl mm n (l + 1) l g T (appB l B [g i 0, 1000, 0, 0]) B (fun r => if r < l then b r else false) b (rj 7 g J) J1' J2' J1 J2 _ _ c a l i (by omega) hi hn (p i) hpe hpg h5 h6 ?_)
      have q2 : appB l B [g i 0, 1000, 0, 0] l 2 = 0 := by unfold appB; rw [if_neg (by omega)]; rfl
      have q3 : appB l B [g i 0, 1000, 0, 0] l 3 = 0 := by unfold appB; rw [if_neg (by omega)]; rfl
      rw [q2, q3]; omega
  · -- a known one
    have hkl : k < l := by omega
    have e3 : q_ix l (cut l 4 B) (g i 0) = k := e3
    rw [cut_in hkl (by omega), item k hkl] at e4
    have hmem : g i 0 ∈ q_ol g i := by rw [← e4, getD_lt (by omega)]; exact List.getElem_mem _
    have hol : q_ol g (i + 1) = q_ol g i := by simp only [q_ol]; rw [if_pos hmem]
    rw [e3, if_neg (by simp <;> omega)]
    have key := up_item (p := p) (k := k) (by rw [← hol]; exact hnd) hl.symm hkl e4 hB hb
    refine ⟨l, ?_, ?_, J1, J2, ?_, ?_⟩
    rotate_left 2
    · exact ⟨by rw [hol]; exact hl, by rw [hol]; exact key.1, by rw [hol]; exact key.2⟩
    · refine f_eq fl mm n l l g T B B b b (rj 7 g J) J1 J2 J1 J2 c a k i hkl hi hn (p i) hpe hpg h5 h6 ?_
      have q2 : B k 2 = q_sx g p 5 ((q_ol g i).getD k 0) i := hB k 2 hkl (by omega)
      have q3 : B k 3 = q_sx g p 6 ((q_ol g i).getD k 0) i := hB k 3 hkl (by omega)
      have := x5 ((q_ol g i).getD k 0)
      have := x6 ((q_ol g i).getD k 0)
      omega
end Go.Proofs.Ytlhgmlfhlbmjpaa.Sh
