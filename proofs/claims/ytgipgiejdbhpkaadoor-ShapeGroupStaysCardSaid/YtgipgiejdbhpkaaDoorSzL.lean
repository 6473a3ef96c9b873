import Derived.Test.YtgipgiejdbhpkaaDoorSzJ
import Derived.Test.YtgipgiejdbhpkaaDoorSzA
namespace Go.Proofs.YtgipgiejdbhpkaaDoor.Sh
open Go Go.RowKit Go.Proofs.YtgipgiejdbhpkaaDoor.Ev Go.Proofs.Tryd
set_option maxRecDepth 1000000
set_option linter.unusedVariables false
/-! plain: the sort sorts -/
def Ins (j k : Nat) (B : Nat → Nat → Int) : Prop := (∀ a b, a < b → b ≤ k → a ≠ j → b ≠ j → B a 0 ≤ B b 0) ∧ ∀ b, j < b → b ≤ k → B j 0 ≤ B b 0
def Srt (k : Nat) (B : Nat → Nat → Int) : Prop := ∀ a b, a < b → b < k → B a 0 ≤ B b 0
theorem in_srt : ∀ (j k : Nat) (B : Nat → Nat → Int), j ≤ k → Ins j k B → Srt (k + 1) (q_in j B) := by
  intro j
  induction j with
  | zero =>
    intro k B _ h a b hab hb
    show B a 0 ≤ B b 0
    by_cases c : a = 0
    · subst c; exact h.2 b hab (by omega)
    · exact h.1 a b hab (by omega) c (by omega)
  | succ j ih =>
    intro k B hjk h
    unfold q_in
    by_cases c : B (j + 1) 0 < B j 0
    · rw [if_pos c]
      refine ih k _ (by omega) ⟨fun a b hab hb ha hb' => ?_, fun b hb hb' => ?_⟩
      · rw [swap_at, swap_at]
        by_cases c1 : a = j + 1
        · subst c1
          rw [if_neg ha, if_pos rfl, if_neg hb', if_neg (by omega)]
          exact h.1 j b (by omega) hb (by omega) (by omega)
        · rw [if_neg ha, if_neg c1, if_neg hb']
          by_cases c2 : b = j + 1
          · subst c2
            rw [if_pos rfl]
            exact h.1 a j (by omega) (by omega) c1 (by omega)
          · rw [if_neg c2]; exact h.1 a b hab hb c1 c2
      · rw [swap_at, swap_at, if_pos rfl, if_neg (by omega)]
        by_cases c2 : b = j + 1
        · subst c2; rw [if_pos rfl]; omega
        · rw [if_neg c2]; exact h.2 b (by omega) hb'
    · rw [if_neg c]
      intro a b hab hb
      by_cases c1 : a = j + 1
      · subst c1; exact h.2 b hab (by omega)
      · by_cases c2 : b = j + 1
        · subst c2
          by_cases c3 : a = j
          · subst c3; omega
          · have := h.1 a j (by omega) (by omega) c1 (by omega); omega
        · exact h.1 a b hab (by omega) c1 c2
theorem in_hi {k : Nat} : ∀ (j : Nat) (B : Nat → Nat → Int), j < k → ∀ i, k ≤ i → q_in j B i 0 = B i 0 := by
  intro j
  induction j with
  | zero => intro B _ i _; rfl
  | succ j ih =>
    intro B hj i hi
    unfold q_in
    split
    · rw [ih _ (by omega) i hi, swap_at, if_neg (by omega), if_neg (by omega)]
    · rfl
theorem so_srt (B : Nat → Nat → Int) : ∀ k, Srt k (q_so B k) := by
  intro k
  induction k with
  | zero => intro a b _ h; exact absurd h (Nat.not_lt_zero _)
  | succ k ih =>
    show Srt (k + 1) (q_in k (q_so B k))
    exact in_srt k k _ (Nat.le_refl k) ⟨fun a b hab hb ha hb' => ih a b hab (by omega), fun b h1 h2 => by omega⟩
/-! plain: valid drawings -/
structure Vd (n : Nat) (g : Nat → Nat → Int) : Prop where
  u : ∀ i j, i < n → j < n → g i 0 = g j 0 → i = j
  p : ∀ i, i < n → g i 1 = 0 ∨ ∃ j, j < i ∧ g j 0 = g i 1 ∧ g j 2 = 5
  c : ∀ i, i < n → q_c1 g i = 0
theorem vd_fd {n m : Nat} {g : Nat → Nat → Int} (h : Vd n g) (hm : m ≤ n) {k : Nat} (hk : k < m) : q_fd m g (g k 0) = k := fd_at hk rfl (fun k' hk' e => by have := h.u k' k (by omega) (by omega) e; omega)
theorem vd_pe {n : Nat} {g : Nat → Nat → Int} (h : Vd n g) : ∀ (f i m : Nat) (d : Int), i ≤ m → m ≤ n → i < n → i < f → d + i ≤ 20 → q_pe m g f (g i 1) d = 0 := by
  intro f
  induction f with
  | zero => intro i m d _ _ _ h; exact absurd h (Nat.not_lt_zero _)
  | succ f ih =>
    intro i m d hi hm hin hf hd
    unfold q_pe
    rcases h.p i hin with h0 | ⟨j, hj, h1, h2⟩
    · rw [if_pos h0]
    · by_cases h0 : g i 1 = 0
      · rw [if_pos h0]
      · rw [if_neg h0, if_neg (by omega), ← h1, vd_fd h hm (by omega), if_neg (by omega), Int.toNat_natCast, if_neg (by rw [h2]; decide)]
        exact ih j m (d + 1) (by omega) hm (by omega) (by omega) (by omega)
theorem vd_chk {n : Nat} {g : Nat → Nat → Int} (hn : n ≤ 19) (h : Vd n g) : q_chk n g = 0 := chk_ok_of (by omega) (fun i hi => by
  unfold q_ce
  rw [if_neg (by rw [h.c i hi]; decide), if_neg ?_]
  · exact vd_pe h 20 i i 1 (Nat.le_refl _) (by omega) hi (by omega) (by omega)
  · rw [twi_iff]
    rintro ⟨k, _, h3, h4⟩
    have := h.u k i (by omega) hi h4
    omega)
theorem vd_cg {n : Nat} {g g' : Nat → Nat → Int} (e : ∀ i j, i < n → j < 10 → g i j = g' i j) (h : Vd n g) : Vd n g' where
  u := fun i j hi hj q => h.u i j hi hj (by rw [e i 0 hi (by omega), e j 0 hj (by omega)]; exact q)
  p := fun i hi => by
    rcases h.p i hi with h0 | ⟨j, hj, h1, h2⟩
    · exact .inl (by rw [← e i 1 hi (by omega)]; exact h0)
    · exact .inr ⟨j, hj, by rw [← e j 0 (by omega) (by omega), ← e i 1 hi (by omega)]; exact h1, by rw [← e j 2 (by omega) (by omega)]; exact h2⟩
  c := fun i hi => by rw [← c1_cg (fun j hj => e i j hi hj)]; exact h.c i hi
/-! plain: chains of groups -/
inductive Ch (n : Nat) (g : Nat → Nat → Int) : Int → Int → Int → Int × Int → Prop
  | zero (x y : Int) : Ch n g 0 x y (x, y)
  | step (k : Nat) (x y : Int) (z : Int × Int) : k < n → g k 0 ≠ 0 → Ch n g (g k 1) (q_tx (x + g k 3) (y + g k 4) (2 * g k 3 + g k 5) (2 * g k 4 + g k 6) (g k 7)) (q_ty (x + g k 3) (y + g k 4) (2 * g k 3 + g k 5) (2 * g k 4 + g k 6) (g k 7)) z → Ch n g (g k 0) x y z
theorem ch_ou {n : Nat} {g : Nat → Nat → Int} (h : Vd n g) {p x y : Int} {z : Int × Int} (c : Ch n g p x y z) : ∀ (f : Nat) (d : Int), q_pe n g f p d = 0 → q_ou n g f p x y = z := by
  induction c with
  | zero x y =>
    intro f d hp
    cases f with
    | zero => exact absurd (show (22 : Int) = 0 from hp) (by decide)
    | succ f => unfold q_ou; rw [if_pos rfl]
  | step k x y z hk h0 _ ih =>
    intro f d hp
    cases f with
    | zero => exact absurd (show (22 : Int) = 0 from hp) (by decide)
    | succ f =>
      unfold q_pe at hp
      rw [if_neg h0] at hp
      split at hp
      · exact absurd hp (by decide)
      · split at hp
        · exact absurd hp (by decide)
        · split at hp
          · exact absurd hp (by decide)
          · rw [vd_fd h (Nat.le_refl n) hk, Int.toNat_natCast] at hp
            unfold q_ou
            rw [if_neg h0, vd_fd h (Nat.le_refl n) hk, Int.toNat_natCast]
            exact ih f (d + 1) hp
theorem ou_ch {n : Nat} {g : Nat → Nat → Int} (h : Vd n g) : ∀ (f : Nat) (p x y d : Int), q_pe n g f p d = 0 → Ch n g p x y (q_ou n g f p x y) := by
  intro f
  induction f with
  | zero => intro p x y d hp; exact absurd (show (22 : Int) = 0 from hp) (by decide)
  | succ f ih =>
    intro p x y d hp
    unfold q_ou
    by_cases h0 : p = 0
    · subst h0; rw [if_pos rfl]; exact .zero x y
    · unfold q_pe at hp
      rw [if_neg h0] at hp
      split at hp
      · exact absurd hp (by decide)
      · split at hp
        · exact absurd hp (by decide)
        · rename_i hf
          split at hp
          · exact absurd hp (by decide)
          · rw [if_neg h0]
            rcases fd_spec n g p with ⟨e, _⟩ | ⟨k, hk, e, e2, _⟩
            · omega
            · rw [e, Int.toNat_natCast] at hp ⊢
              have := ih _ (q_tx (x + g k 3) (y + g k 4) (2 * g k 3 + g k 5) (2 * g k 4 + g k 6) (g k 7)) (q_ty (x + g k 3) (y + g k 4) (2 * g k 3 + g k 5) (2 * g k 4 + g k 6) (g k 7)) (d + 1) hp
              rw [← e2]
              exact .step k x y _ hk (by rw [e2]; exact h0) this
/-- A turn moved. -/
theorem tx_mv (x y cx cy t a b : Int) : q_tx (x - a) (y - b) (cx - 2 * a) (cy - 2 * b) t = q_tx x y cx cy t - a ∧ q_ty (x - a) (y - b) (cx - 2 * a) (cy - 2 * b) t = q_ty x y cx cy t - b := by
  unfold q_tx q_ty
  have r : ∀ z, q_round z 131072 = (2 * z + 131072) / 262144 := fun _ => rfl
  rw [r, r, r, r]
  rw [show 2 * (x - a) - (cx - 2 * a) = 2 * x - cx by omega, show 2 * (y - b) - (cy - 2 * b) = 2 * y - cy by omega]
  generalize (2 * x - cx) * q_sn (t + 900) = p1
  generalize (2 * y - cy) * q_sn t = p2
  generalize (2 * x - cx) * q_sn t = p3
  generalize (2 * y - cy) * q_sn (t + 900) = p4
  omega
theorem tx_zer (x y cx cy : Int) : q_tx x y cx cy 0 = x ∧ q_ty x y cx cy 0 = y := by
  have z1 : q_sn 0 = 0 := by decide
  have z2 : q_sn (0 + 900) = 65536 := by decide
  unfold q_tx q_ty
  rw [z1, z2]
  have r : ∀ z, q_round z 131072 = (2 * z + 131072) / 262144 := fun _ => rfl
  rw [r, r]
  omega
/-- What Ungroup leaves is valid. -/
theorem un_vd {n kk : Nat} {F : Nat → Nat → Int} (hk : kk < n + 1) (h : Vd (n + 1) F) (h0 : F kk 0 = 77) (hc : ∀ i, i < n → q_c1 (q_uG kk 77 F) i = 0) : Vd n (q_uG kk 77 F) := by
  have up1 : ∀ i, i < n → q_up kk i < n + 1 ∧ q_up kk i ≠ kk := fun i hi => by unfold q_up; split <;> omega
  have dn : ∀ u, u < n + 1 → u ≠ kk → ∃ i, i < n ∧ q_up kk i = u := fun u hu hne => by
    by_cases c : u < kk
    · exact ⟨u, by omega, by unfold q_up; rw [if_pos c]⟩
    · exact ⟨u - 1, by omega, by unfold q_up; rw [if_neg (by omega)]; omega⟩
  have lt : ∀ i j, q_up kk i < q_up kk j → i < j := fun i j q => by unfold q_up at q; split at q <;> split at q <;> omega
  have e0 : ∀ i, q_uG kk 77 F i 0 = F (q_up kk i) 0 := fun i => rfl
  have e2 : ∀ i, q_uG kk 77 F i 2 = F (q_up kk i) 2 := fun i => rfl
  have e1 : ∀ i, q_uG kk 77 F i 1 = if (F (q_up kk i) 1 == 77) = true then F kk 1 else F (q_up kk i) 1 := fun i => rfl
  refine ⟨fun i j hi hj e => ?_, fun i hi => ?_, hc⟩
  · rw [e0, e0] at e
    have := h.u _ _ (up1 i hi).1 (up1 j hj).1 e
    unfold q_up at this
    split at this <;> split at this <;> omega
  · rw [e1]
    obtain ⟨u1, u2⟩ := up1 i hi
    by_cases c : F (q_up kk i) 1 = 77
    · rw [if_pos (by simpa using c)]
      rcases h.p _ u1 with z | ⟨j, hj, h1, h2⟩
      · omega
      · have ej : j = kk := h.u j kk (by omega) hk (by omega)
        subst ej
        rcases h.p j hk with z | ⟨v, hv, h3, h4⟩
        · exact .inl z
        · obtain ⟨i', hi', e'⟩ := dn v (by omega) (by omega)
          exact .inr ⟨i', lt i' i (by omega), by rw [e0, e']; exact h3, by rw [e2, e']; exact h4⟩
    · rw [if_neg (by simpa using c)]
      rcases h.p _ u1 with z | ⟨v, hv, h3, h4⟩
      · exact .inl z
      · obtain ⟨i', hi', e'⟩ := dn v (by omega) (fun q => c (by rw [← h3, q, h0]))
        exact .inr ⟨i', lt i' i (by omega), by rw [e0, e']; exact h3, by rw [e2, e']; exact h4⟩
/-! plain: lists of rows -/
def PR (acc : List SR) (r : SR) : Prop := (r.1 1 = 0 ∨ ∃ q, q ∈ acc ∧ q.1 0 = r.1 1 ∧ q.1 2 = 5) ∧ (∀ q, q ∈ acc → q.1 0 ≠ r.1 0) ∧ q_c1 (fun _ => r.1) 0 = 0
def Pv : List SR → List SR → Prop
  | _, [] => True
  | acc, r :: L => PR acc r ∧ Pv (acc ++ [r]) L
theorem pv_app : ∀ (L M acc : List SR), Pv acc L → Pv (acc ++ L) M → Pv acc (L ++ M) := by
  intro L
  induction L with
  | nil => intro M acc _ h; simpa using h
  | cons r L ih => intro M acc h h2; exact ⟨h.1, ih M _ h.2 (by simpa using h2)⟩
theorem pv_idx : ∀ (L acc : List SR), Pv acc L → ∀ i, i < L.length → PR (acc ++ L.take i) (L.getD i z0) := by
  intro L
  induction L with
  | nil => intro _ _ i h; exact absurd h (Nat.not_lt_zero _)
  | cons r L ih =>
    intro acc h i hi
    cases i with
    | zero => simpa using h.1
    | succ i =>
      have := ih (acc ++ [r]) h.2 i (by simpa using hi)
      simpa using this
theorem mem_take {L : List SR} {i : Nat} {q : SR} (hi : i ≤ L.length) : q ∈ L.take i ↔ ∃ j, j < i ∧ L.getD j z0 = q := by
  rw [List.mem_iff_getElem]
  constructor
  · rintro ⟨j, hj, e⟩
    rw [List.length_take] at hj
    refine ⟨j, by omega, ?_⟩
    rw [List.getElem_take] at e
    rw [List.getD_eq_getElem?_getD, List.getElem?_eq_getElem (by omega)]; exact e
  · rintro ⟨j, hj, e⟩
    refine ⟨j, by rw [List.length_take]; omega, ?_⟩
    rw [List.getElem_take]
    rw [List.getD_eq_getElem?_getD, List.getElem?_eq_getElem (by omega)] at e; exact e
theorem mem_gD {L : List SR} {q : SR} : q ∈ L ↔ ∃ j, j < L.length ∧ L.getD j z0 = q := by
  have := mem_take (L := L) (i := L.length) (q := q) (Nat.le_refl _)
  rwa [List.take_length] at this
theorem pv_vd {L : List SR} (h : Pv [] L) : Vd L.length (lG L) := by
  have key := fun i hi => pv_idx L [] h i hi
  simp only [List.nil_append] at key
  have lt : ∀ i j, i < L.length → j < i → lG L j 0 ≠ lG L i 0 := fun i j hi hj => (key i hi).2.1 _ ((mem_take (by omega)).2 ⟨j, hj, rfl⟩)
  refine ⟨fun i j hi hj e => ?_, fun i hi => ?_, fun i hi => ?_⟩
  · rcases Nat.lt_trichotomy i j with c | c | c
    · exact absurd e (lt j i hj c)
    · exact c
    · exact absurd e.symm (lt i j hi c)
  · rcases (key i hi).1 with z | ⟨q, hq, h1, h2⟩
    · exact .inl z
    · obtain ⟨j, hj, rfl⟩ := (mem_take (by omega)).1 hq
      exact .inr ⟨j, hj, h1, h2⟩
  · exact (key i hi).2.2
/-! plain: what Group makes of the law's drawing -/
structure Gw (N : Nat) (g : Nat → Nat → Int) : Prop where
  n0 : 0 < N
  n1 : N ≤ 10
  i0 : ∀ i, i < N → g i 0 = i + 1
  k : ∀ i, i < N → 0 ≤ g i 2 ∧ g i 2 ≤ 7
  s : Gs N g
  f : ∀ i, i < N → (0 ≤ g i 8 ∧ g i 8 ≤ 11) ∧ (0 ≤ g i 9 ∧ g i 9 ≤ 11) ∧ (g i 2 ≠ 6 → g i 8 = 0 ∧ g i 9 = 0)
  p : ∀ i, i < N → g i 1 = 0 ∨ ∃ j, j < i ∧ g i 1 = j + 1 ∧ g j 2 = 5
structure Ga (N o : Nat) (g C : Nat → Nat → Int) : Prop where
  o0 : 0 < o
  o1 : o ≤ 12
  cr : ∀ i, i < o → 0 ≤ C i 0 ∧ C i 0 < N
  a0 : q_inA C o (C 0 0).toNat = true
  mn : ∀ k, q_inA C o k = true → (C 0 0).toNat ≤ k ∧ k < N
  pr : ∀ k, q_inA C o k = true → g k 1 = g (C 0 0).toNat 1
theorem gw_fd {N : Nat} {g : Nat → Nat → Int} (h : Gw N g) {j : Nat} (hj : j < N) : q_fd N g ((j : Int) + 1) = j := fd_at hj (h.i0 j hj) (fun k hk e => by rw [h.i0 k (by omega)] at e; omega)
theorem bL_st {A : Nat → Bool} {g : Nat → Nat → Int} {n : Nat} : ∀ m j, j < m → q_bL A g n m j = q_bL A g n (j + 1) j := by
  intro m
  induction m with
  | zero => intro j h; exact absurd h (Nat.not_lt_zero _)
  | succ m ih =>
    intro j h
    by_cases c : j = m
    · rw [c]
    · conv => lhs; unfold q_bL
      rw [if_neg c]
      exact ih j (by omega)
section
variable {N o : Nat} {g C : Nat → Nat → Int} {sx : Nat → Nat → ByteArray}
theorem b_fix (h : Gw N g) {i : Nat} (hi : i < N) : q_gb N o g C i = (q_inA C o i || (g i 1 != 0 && q_gb N o g C (q_fd N g (g i 1)).toNat)) := by
  unfold q_gb
  rw [bL_st N i hi]
  conv => lhs; unfold q_bL
  rw [if_pos rfl]
  rcases h.p i hi with z | ⟨j, hj, h1, _⟩
  · rw [z]; simp
  · rw [h1, gw_fd h (by omega), Int.toNat_natCast, bL_st i j hj, bL_st N j (by omega)]
theorem b_A (h : Gw N g) {i : Nat} (hi : i < N) (hA : q_inA C o i = true) : q_gb N o g C i = true := by rw [b_fix h hi, hA]; rfl
/-- An inner row is an item's, or its group is inner. -/
theorem b_in (h : Gw N g) {i : Nat} (hi : i < N) (hb : q_gb N o g C i = true) : q_inA C o i = true ∨ ∃ j, j < i ∧ g i 1 = j + 1 ∧ g j 2 = 5 ∧ q_gb N o g C j = true := by
  rw [b_fix h hi] at hb
  cases hA : q_inA C o i
  · right
    rcases h.p i hi with z | ⟨j, hj, h1, h2⟩
    · rw [hA, z] at hb; simp at hb
    · rw [hA, h1, gw_fd h (by omega), Int.toNat_natCast] at hb
      simp at hb
      exact ⟨j, hj, h1, h2, hb.2⟩
  · exact .inl rfl
/-- The group of what is not inner is not inner. -/
theorem b_out (h : Gw N g) {i : Nat} (hi : i < N) (hb : q_gb N o g C i = false) : q_inA C o i = false ∧ (g i 1 = 0 ∨ ∃ j, j < i ∧ g i 1 = j + 1 ∧ g j 2 = 5 ∧ q_gb N o g C j = false) := by
  rw [b_fix h hi] at hb
  have hA : q_inA C o i = false := by cases hA : q_inA C o i <;> simp_all
  refine ⟨hA, ?_⟩
  rcases h.p i hi with z | ⟨j, hj, h1, h2⟩
  · exact .inl z
  · right
    rw [hA, h1, gw_fd h (by omega), Int.toNat_natCast] at hb
    have h3 : (((j : Int) + 1) != 0) = true := by simp; omega
    rw [h3] at hb
    exact ⟨j, hj, h1, h2, by simpa using hb⟩
theorem b_ge (h : Gw N g) (ha : Ga N o g C) : ∀ i, i < N → q_gb N o g C i = true → (C 0 0).toNat ≤ i := by
  intro i
  induction i using Nat.strongRecOn with
  | ind i ih =>
    intro hi hb
    rcases b_in h hi hb with hA | ⟨j, hj, _, _, h3⟩
    · exact (ha.mn i hA).1
    · have := ih j hj (by omega) h3; omega
theorem mem_rest {A b : Nat → Bool} {c : Nat → Int} {x : SR} : ∀ i, x ∈ q_rest A b g sx c i ↔ ∃ k, k < i ∧ ((A k = true ∧ x = rowM g sx c k) ∨ (A k = false ∧ b k = true ∧ x = rowO g sx k)) := by
  intro i
  induction i with
  | zero => simp [q_rest]
  | succ i ih =>
    unfold q_rest
    rw [List.mem_append, ih]
    constructor
    · rintro (⟨k, hk, h⟩ | h)
      · exact ⟨k, by omega, h⟩
      · refine ⟨i, by omega, ?_⟩
        cases hA : A i
        · rw [hA, if_neg (by decide)] at h
          cases hb : b i
          · rw [hb] at h; simp at h
          · rw [hb] at h; exact .inr ⟨rfl, rfl, by simpa using h⟩
        · rw [hA, if_pos rfl] at h; exact .inl ⟨rfl, by simpa using h⟩
    · rintro ⟨k, hk, h⟩
      by_cases c : k = i
      · subst c
        right
        rcases h with ⟨hA, e⟩ | ⟨hA, hb, e⟩
        · rw [hA, if_pos rfl, e]; exact List.mem_singleton.2 rfl
        · rw [hA, if_neg (by decide), hb, if_pos rfl, e]; exact List.mem_singleton.2 rfl
      · exact .inl ⟨k, by omega, h⟩
theorem mem_out {a0 : Nat} {b : Nat → Bool} {c : Nat → Int} {Rs : List SR} {x : SR} : ∀ i, x ∈ q_out a0 b g sx c Rs i ↔ (a0 < i ∧ (x = rowG c ∨ x ∈ Rs)) ∨ ∃ k, k < i ∧ b k = false ∧ x = rowO g sx k := by
  intro i
  induction i with
  | zero => simp [q_out]
  | succ i ih =>
    unfold q_out
    rw [List.mem_append, List.mem_append, ih]
    constructor
    · rintro (((⟨h1, h2⟩ | ⟨k, hk, h⟩) | h) | h)
      · exact .inl ⟨by omega, h2⟩
      · exact .inr ⟨k, by omega, h⟩
      · by_cases c0 : i = a0
        · rw [if_pos c0] at h; exact .inl ⟨by omega, by simpa using h⟩
        · rw [if_neg c0] at h; simp at h
      · cases hb : b i
        · rw [hb] at h; exact .inr ⟨i, by omega, hb, by simpa using h⟩
        · rw [hb] at h; simp at h
    · rintro (⟨h1, h2⟩ | ⟨k, hk, hb, e⟩)
      · by_cases c0 : i = a0
        · refine .inl (.inr ?_)
          rw [if_pos c0]; simpa using h2
        · exact .inl (.inl (.inl ⟨by omega, h2⟩))
      · by_cases c0 : k = i
        · subst c0
          refine .inr ?_
          rw [hb, if_neg (by decide), e]; exact List.mem_singleton.2 rfl
        · exact .inl (.inl (.inr ⟨k, by omega, hb, e⟩))
theorem out_sum {a0 : Nat} {A b : Nat → Bool} {c : Nat → Int} {Rs : List SR} (hAb : ∀ k, k < N → A k = true → b k = true) : ∀ i, i ≤ N → (q_out a0 b g sx c Rs i).length + (q_rest A b g sx c i).length = i + if a0 < i then Rs.length + 1 else 0 := by
  intro i
  induction i with
  | zero => intro _; simp [q_out, q_rest]
  | succ i ih =>
    intro hi
    have := ih (by omega)
    unfold q_out q_rest
    rw [List.length_append, List.length_append, List.length_append]
    have e1 : (if b i = true then ([] : List SR) else [rowO g sx i]).length + (if A i = true then [rowM g sx c i] else if b i = true then [rowO g sx i] else []).length = 1 := by
      cases hb : b i
      · cases hA : A i
        · rfl
        · have := hAb i (by omega) hA; rw [hb] at this; exact absurd this (by decide)
      · cases hA : A i <;> rfl
    by_cases c0 : i = a0
    · have e2 : (if a0 < i + 1 then Rs.length + 1 else 0) = Rs.length + 1 := if_pos (by omega)
      have e3 : (if a0 < i then Rs.length + 1 else 0) = 0 := if_neg (by omega)
      rw [if_pos c0, List.length_cons, e2]
      rw [e3] at this
      omega
    · rw [if_neg c0, List.length_nil]
      by_cases c1 : a0 < i
      · have e2 : (if a0 < i + 1 then Rs.length + 1 else 0) = Rs.length + 1 := if_pos (by omega)
        have e3 : (if a0 < i then Rs.length + 1 else 0) = Rs.length + 1 := if_pos c1
        rw [e2]; rw [e3] at this; omega
      · have e2 : (if a0 < i + 1 then Rs.length + 1 else 0) = 0 := if_neg (by omega)
        have e3 : (if a0 < i then Rs.length + 1 else 0) = 0 := if_neg c1
        rw [e2]; rw [e3] at this; omega
end
/-! plain: Group's rows are a valid drawing -/
section
variable {N o : Nat} {g C : Nat → Nat → Int} {sx : Nat → Nat → ByteArray}
theorem gc_bd (h : Gw N g) (ha : Ga N o g C) : (-4300 ≤ q_gc g C o 3 ∧ q_gc g C o 3 ≤ 4300) ∧ (-4300 ≤ q_gc g C o 4 ∧ q_gc g C o 4 ≤ 4300) ∧ (0 ≤ q_gc g C o 5 ∧ q_gc g C o 5 ≤ 8600) ∧ 0 ≤ q_gc g C o 6 ∧ q_gc g C o 6 ≤ 8600 := by
  have bd := fu_bd h.s ha.cr ha.o0 o (Nat.le_refl _)
  show (-4300 ≤ (q_fu g C o).1 ∧ (q_fu g C o).1 ≤ 4300) ∧ (-4300 ≤ (q_fu g C o).2.1 ∧ (q_fu g C o).2.1 ≤ 4300) ∧ (0 ≤ (q_fu g C o).2.2.1 - (q_fu g C o).1 ∧ (q_fu g C o).2.2.1 - (q_fu g C o).1 ≤ 8600) ∧ 0 ≤ (q_fu g C o).2.2.2 - (q_fu g C o).2.1 ∧ (q_fu g C o).2.2.2 - (q_fu g C o).2.1 ≤ 8600
  omega
theorem gc_at : q_gc g C o 0 = 77 ∧ q_gc g C o 1 = g (C 0 0).toNat 1 ∧ q_gc g C o 2 = 5 ∧ q_gc g C o 7 = 0 ∧ q_gc g C o 8 = 0 ∧ q_gc g C o 9 = 0 := ⟨rfl, rfl, rfl, rfl, rfl, rfl⟩
theorem a0_lt (ha : Ga N o g C) : (C 0 0).toNat < N := (ha.mn _ ha.a0).2
theorem par_bd (h : Gw N g) {i : Nat} (hi : i < N) : 0 ≤ g i 1 ∧ g i 1 ≤ 10 := by
  have := h.n1
  rcases h.p i hi with z | ⟨j, hj, h1, _⟩ <;> omega
theorem c1_O (h : Gw N g) {k : Nat} (hk : k < N) : q_c1 (fun _ => (rowO g sx k).1) 0 = 0 := by
  have h0 := h.i0 k hk
  have h1 := par_bd h hk
  have h2 := h.k k hk
  have h3 := h.s k hk
  have h4 := h.f k hk
  have := h.n1
  rw [c1_zero]
  show (0 ≤ g k 2 ∧ g k 2 ≤ 7) ∧ ((1 ≤ g k 0 ∧ g k 0 ≤ 1073741824) ∧ (0 ≤ g k 1 ∧ g k 1 ≤ 1073741824) ∧ (0 ≤ g k 8 ∧ g k 8 ≤ 1073741824) ∧ 0 ≤ g k 9 ∧ g k 9 ≤ 1073741824) ∧ ((-1048576 ≤ g k 3 ∧ g k 3 ≤ 1048576) ∧ (-1048576 ≤ g k 4 ∧ g k 4 ≤ 1048576) ∧ (0 ≤ g k 5 ∧ g k 5 ≤ 1048576) ∧ (0 ≤ g k 6 ∧ g k 6 ≤ 1048576) ∧ 0 ≤ g k 7 ∧ g k 7 < 3600) ∧ (g k 2 ≠ 6 → g k 8 = 0 ∧ g k 9 = 0)
  refine ⟨h2, ?_, ?_, h4.2.2⟩ <;> omega
theorem c1_M (h : Gw N g) (ha : Ga N o g C) {k : Nat} (hk : k < N) : q_c1 (fun _ => (rowM g sx (q_gc g C o) k).1) 0 = 0 := by
  have h0 := h.i0 k hk
  have h2 := h.k k hk
  have h3 := h.s k hk
  have h4 := h.f k hk
  have hc := gc_bd h ha
  have := h.n1
  rw [c1_zero]
  show (0 ≤ g k 2 ∧ g k 2 ≤ 7) ∧ ((1 ≤ g k 0 ∧ g k 0 ≤ 1073741824) ∧ (0 ≤ (77 : Int) ∧ (77 : Int) ≤ 1073741824) ∧ (0 ≤ g k 8 ∧ g k 8 ≤ 1073741824) ∧ 0 ≤ g k 9 ∧ g k 9 ≤ 1073741824) ∧ ((-1048576 ≤ g k 3 - q_gc g C o 3 ∧ g k 3 - q_gc g C o 3 ≤ 1048576) ∧ (-1048576 ≤ g k 4 - q_gc g C o 4 ∧ g k 4 - q_gc g C o 4 ≤ 1048576) ∧ (0 ≤ g k 5 ∧ g k 5 ≤ 1048576) ∧ (0 ≤ g k 6 ∧ g k 6 ≤ 1048576) ∧ 0 ≤ g k 7 ∧ g k 7 < 3600) ∧ (g k 2 ≠ 6 → g k 8 = 0 ∧ g k 9 = 0)
  refine ⟨h2, ?_, ?_, h4.2.2⟩ <;> omega
theorem c1_G (h : Gw N g) (ha : Ga N o g C) : q_c1 (fun _ => (rowG (q_gc g C o)).1) 0 = 0 := by
  have h1 := par_bd h (a0_lt ha)
  have hc := gc_bd h ha
  rw [c1_zero]
  show (0 ≤ (5 : Int) ∧ (5 : Int) ≤ 7) ∧ ((1 ≤ (77 : Int) ∧ (77 : Int) ≤ 1073741824) ∧ (0 ≤ g (C 0 0).toNat 1 ∧ g (C 0 0).toNat 1 ≤ 1073741824) ∧ (0 ≤ (0 : Int) ∧ (0 : Int) ≤ 1073741824) ∧ 0 ≤ (0 : Int) ∧ (0 : Int) ≤ 1073741824) ∧ ((-1048576 ≤ q_gc g C o 3 ∧ q_gc g C o 3 ≤ 1048576) ∧ (-1048576 ≤ q_gc g C o 4 ∧ q_gc g C o 4 ≤ 1048576) ∧ (0 ≤ q_gc g C o 5 ∧ q_gc g C o 5 ≤ 1048576) ∧ (0 ≤ q_gc g C o 6 ∧ q_gc g C o 6 ≤ 1048576) ∧ 0 ≤ (0 : Int) ∧ (0 : Int) < 3600) ∧ ((5 : Int) ≠ 6 → (0 : Int) = 0 ∧ (0 : Int) = 0)
  refine ⟨by omega, by omega, by omega, fun _ => ⟨rfl, rfl⟩⟩
theorem rest_pv (h : Gw N g) (ha : Ga N o g C) (acc : List SR) (hG : rowG (q_gc g C o) ∈ acc) (hacc : ∀ q, q ∈ acc → q = rowG (q_gc g C o) ∨ ∃ k, k < (C 0 0).toNat ∧ q = rowO g sx k) : ∀ i, i ≤ N → Pv acc (q_gR N o g sx C i) := by
  have hn := h.n1
  have hlt := a0_lt ha
  intro i
  induction i with
  | zero => intro _; trivial
  | succ i ih =>
    intro hi
    have old : ∀ q, q ∈ acc ++ q_gR N o g sx C i → (C 0 0).toNat ≤ i → q.1 0 ≠ g i 0 := fun q hq hle => by
      rw [h.i0 i (by omega)]
      rcases List.mem_append.1 hq with hq | hq
      · rcases hacc q hq with e | ⟨k, hk, e⟩
        · rw [e]; show (77 : Int) ≠ _; omega
        · rw [e]; show g k 0 ≠ _; rw [h.i0 k (by omega)]; omega
      · obtain ⟨k, hk, ⟨_, e⟩ | ⟨_, _, e⟩⟩ := (mem_rest i).1 hq
        · rw [e]; show g k 0 ≠ _; rw [h.i0 k (by omega)]; omega
        · rw [e]; show g k 0 ≠ _; rw [h.i0 k (by omega)]; omega
    refine pv_app _ _ _ (ih (by omega)) ?_
    cases hA : q_inA C o i
    · rw [if_neg (by decide)]
      cases hb : q_gb N o g C i
      · rw [if_neg (by decide)]; trivial
      · rw [if_pos rfl]
        refine ⟨⟨.inr ?_, fun q hq => old q hq (b_ge h ha i (by omega) hb), c1_O h (by omega)⟩, trivial⟩
        rcases b_in h (by omega) hb with hA' | ⟨j, hj, h1, h2, h3⟩
        · rw [hA] at hA'; exact absurd hA' (by decide)
        · cases hAj : q_inA C o j
          · refine ⟨rowO g sx j, List.mem_append.2 (.inr ((mem_rest i).2 ⟨j, hj, .inr ⟨hAj, h3, rfl⟩⟩)), ?_, h2⟩
            show g j 0 = g i 1
            rw [h1, h.i0 j (by omega)]
          · refine ⟨rowM g sx (q_gc g C o) j, List.mem_append.2 (.inr ((mem_rest i).2 ⟨j, hj, .inl ⟨hAj, rfl⟩⟩)), ?_, h2⟩
            show g j 0 = g i 1
            rw [h1, h.i0 j (by omega)]
    · rw [if_pos rfl]
      exact ⟨⟨.inr ⟨_, List.mem_append.2 (.inl hG), rfl, rfl⟩, fun q hq => old q hq (ha.mn i hA).1, c1_M h ha (by omega)⟩, trivial⟩
theorem out_pv (h : Gw N g) (ha : Ga N o g C) : ∀ i, i ≤ N → Pv [] (q_out (C 0 0).toNat (q_gb N o g C) g sx (q_gc g C o) (q_gR N o g sx C N) i) := by
  have hn := h.n1
  have hlt := a0_lt ha
  intro i
  induction i with
  | zero => intro _; trivial
  | succ i ih =>
    intro hi
    have ih := ih (by omega)
    unfold q_out
    refine pv_app _ _ _ ?_ ?_
    · by_cases c0 : i = (C 0 0).toNat
      · rw [if_pos c0]
        refine pv_app _ _ _ ih ?_
        rw [List.nil_append]
        have only : ∀ q, q ∈ q_out (C 0 0).toNat (q_gb N o g C) g sx (q_gc g C o) (q_gR N o g sx C N) i → ∃ k, k < i ∧ q_gb N o g C k = false ∧ q = rowO g sx k := fun q hq => by
          rcases (mem_out i).1 hq with ⟨h1, _⟩ | h1
          · omega
          · exact h1
        refine ⟨⟨?_, fun q hq => ?_, c1_G h ha⟩, ?_⟩
        · show g (C 0 0).toNat 1 = 0 ∨ _
          rcases h.p _ hlt with z | ⟨j, hj, h1, h2⟩
          · exact .inl z
          · refine .inr ⟨rowO g sx j, (mem_out i).2 (.inr ⟨j, by omega, ?_, rfl⟩), ?_, h2⟩
            · cases hb : q_gb N o g C j
              · rfl
              · have := b_ge h ha j (by omega) hb; omega
            · show g j 0 = g (C 0 0).toNat 1
              rw [h1, h.i0 j (by omega)]
        · obtain ⟨k, hk, _, e⟩ := only q hq
          rw [e]
          show g k 0 ≠ 77
          rw [h.i0 k (by omega)]; omega
        · refine rest_pv h ha _ (List.mem_append.2 (.inr (List.mem_singleton.2 rfl))) (fun q hq => ?_) N (Nat.le_refl N)
          rcases List.mem_append.1 hq with hq | hq
          · obtain ⟨k, hk, _, e⟩ := only q hq
            exact .inr ⟨k, by omega, e⟩
          · exact .inl (List.mem_singleton.1 hq)
      · rw [if_neg c0, List.append_nil]; exact ih
    · rw [List.nil_append]
      cases hb : q_gb N o g C i
      · show Pv _ [rowO g sx i]
        have mem : ∀ q, (q ∈ q_out (C 0 0).toNat (q_gb N o g C) g sx (q_gc g C o) (q_gR N o g sx C N) i ++ if i = (C 0 0).toNat then rowG (q_gc g C o) :: q_gR N o g sx C N else []) → q = rowG (q_gc g C o) ∨ q ∈ q_gR N o g sx C N ∨ ∃ k, k < i ∧ q_gb N o g C k = false ∧ q = rowO g sx k := fun q hq => by
          rcases List.mem_append.1 hq with hq | hq
          · rcases (mem_out i).1 hq with ⟨_, h1 | h1⟩ | h1
            · exact .inl h1
            · exact .inr (.inl h1)
            · exact .inr (.inr h1)
          · by_cases c0 : i = (C 0 0).toNat
            · rw [if_pos c0] at hq
              rcases List.mem_cons.1 hq with h1 | h1
              · exact .inl h1
              · exact .inr (.inl h1)
            · rw [if_neg c0] at hq; exact absurd hq (by simp)
        refine ⟨⟨?_, fun q hq => ?_, c1_O h (by omega)⟩, trivial⟩
        · rcases (b_out h (by omega) hb).2 with z | ⟨j, hj, h1, h2, h3⟩
          · exact .inl z
          · refine .inr ⟨rowO g sx j, List.mem_append.2 (.inl ((mem_out i).2 (.inr ⟨j, hj, h3, rfl⟩))), ?_, h2⟩
            show g j 0 = g i 1
            rw [h1, h.i0 j (by omega)]
        · show q.1 0 ≠ g i 0
          rw [h.i0 i (by omega)]
          rcases mem q hq with e | hq | ⟨k, hk, _, e⟩
          · rw [e]; show (77 : Int) ≠ _; omega
          · obtain ⟨k, hk, ⟨hA, e⟩ | ⟨_, hb', e⟩⟩ := (mem_rest N).1 hq
            · rw [e]; show g k 0 ≠ _; rw [h.i0 k hk]
              intro q2
              have : k = i := by omega
              subst this
              rw [(b_out h hk hb).1] at hA; exact absurd hA (by decide)
            · rw [e]; show g k 0 ≠ _; rw [h.i0 k hk]
              intro q2
              have : k = i := by omega
              subst this
              rw [hb] at hb'; exact absurd hb' (by decide)
          · rw [e]; show g k 0 ≠ _; rw [h.i0 k (by omega)]; omega
      · show Pv _ []; trivial
theorem gL_len (h : Gw N g) (ha : Ga N o g C) : (q_gL N o g sx C).length = N + 1 := by
  have := out_sum (N := N) (a0 := (C 0 0).toNat) (A := q_inA C o) (b := q_gb N o g C) (g := g) (sx := sx) (c := q_gc g C o) (Rs := q_gR N o g sx C N) (fun k hk hA => b_A h hk hA) N (Nat.le_refl N)
  rw [if_pos (a0_lt ha)] at this
  have e : (q_rest (q_inA C o) (q_gb N o g C) g sx (q_gc g C o) N).length = (q_gR N o g sx C N).length := rfl
  have e2 : (q_out (C 0 0).toNat (q_gb N o g C) g sx (q_gc g C o) (q_gR N o g sx C N) N).length = (q_gL N o g sx C).length := rfl
  omega
theorem gL_vd (h : Gw N g) (ha : Ga N o g C) : Vd (N + 1) (lG (q_gL N o g sx C)) := by
  have := pv_vd (out_pv (sx := sx) h ha N (Nat.le_refl N))
  rwa [show (q_out (C 0 0).toNat (q_gb N o g C) g sx (q_gc g C o) (q_gR N o g sx C N) N).length = N + 1 from gL_len h ha] at this
theorem gL_mem (h : Gw N g) (ha : Ga N o g C) {x : SR} : x ∈ q_gL N o g sx C ↔ x = rowG (q_gc g C o) ∨ ∃ k, k < N ∧ ((q_inA C o k = true ∧ x = rowM g sx (q_gc g C o) k) ∨ (q_inA C o k = false ∧ x = rowO g sx k)) := by
  have hlt := a0_lt ha
  rw [mem_out]
  constructor
  · rintro (⟨_, e | hq⟩ | ⟨k, hk, hb, e⟩)
    · exact .inl e
    · obtain ⟨k, hk, ⟨hA, e⟩ | ⟨hA, _, e⟩⟩ := (mem_rest N).1 hq
      · exact .inr ⟨k, hk, .inl ⟨hA, e⟩⟩
      · exact .inr ⟨k, hk, .inr ⟨hA, e⟩⟩
    · exact .inr ⟨k, hk, .inr ⟨(b_out h hk hb).1, e⟩⟩
  · rintro (e | ⟨k, hk, ⟨hA, e⟩ | ⟨hA, e⟩⟩)
    · exact .inl ⟨hlt, .inl e⟩
    · exact .inl ⟨hlt, .inr ((mem_rest N).2 ⟨k, hk, .inl ⟨hA, e⟩⟩)⟩
    · cases hb : q_gb N o g C k
      · exact .inr ⟨k, hk, hb, e⟩
      · exact .inl ⟨hlt, .inr ((mem_rest N).2 ⟨k, hk, .inr ⟨hA, hb, e⟩⟩)⟩
theorem gr_ok (h : Gw N g) (ha : Ga N o g C) : GrP N o g sx C := by
  have hn := h.n1
  have hlt := a0_lt ha
  have hA0 : ∀ i, (C 0 0).toNat < i → q_gR N o g sx C i ≠ [] := fun i hi e => by
    have : rowM g sx (q_gc g C o) (C 0 0).toNat ∈ q_gR N o g sx C i := (mem_rest i).2 ⟨_, hi, .inl ⟨ha.a0, rfl⟩⟩
    rw [e] at this
    exact absurd this (by simp)
  exact {
    n0 := h.n0
    n1 := by omega
    m0 := ha.o0
    m1 := ha.o1
    gs := h.s
    hC := ha.cr
    hp := fun i hi h0 => by
      rcases h.p i hi with z | ⟨j, hj, h1, _⟩
      · exact absurd z h0
      · rw [h1, gw_fd h (by omega)]; omega
    h77 := by
      rw [fd_no (fun k hk => by rw [h.i0 k hk]; omega)]; decide
    hb := fun i hi hb hA => hA0 i (by
      have := b_ge h ha i hi hb
      by_cases c : (C 0 0).toNat = i
      · rw [← c, ha.a0] at hA; exact absurd hA (by decide)
      · omega)
    he := hA0 N hlt
    b1 := fun e => by
      have := ha.a0
      rw [e] at this
      exact b_A h h.n0 this
    b2 := fun e => by
      cases hb : q_gb N o g C 0
      · rfl
      · have := b_ge h ha 0 h.n0 hb; omega
    hv := by rw [gL_len h ha]; exact vd_chk (by omega) (gL_vd h ha) }
end
/-! plain: corners stay -/
def q_rk (g C : Nat → Nat → Int) (o k : Nat) : Nat → Int := if q_inA C o k = true then q_c10 (g k 0) 77 (g k 2) (g k 3 - q_gc g C o 3) (g k 4 - q_gc g C o 4) (g k 5) (g k 6) (g k 7) (g k 8) (g k 9) else g k
structure Ff (N o kk : Nat) (g C FF : Nat → Nat → Int) : Prop where
  vd : Vd (N + 1) FF
  kl : kk < N + 1
  G : ∀ j, j < 10 → FF kk j = q_gc g C o j
  has : ∀ k, k < N → ∃ u, u < N + 1 ∧ ∀ j, j < 10 → FF u j = q_rk g C o k j
  only : ∀ u, u < N + 1 → u ≠ kk → ∃ k, k < N ∧ ∀ j, j < 10 → FF u j = q_rk g C o k j
section
variable {N o kk : Nat} {g C FF Gl : Nat → Nat → Int} {sx : Nat → Nat → ByteArray}
theorem rk_0 (k : Nat) : q_rk g C o k 0 = g k 0 := by unfold q_rk; split <;> rfl
theorem ff_of (h : Gw N g) (ha : Ga N o g C) (hF : ∀ i j, i < N + 1 → j < 10 → FF i j = lG (q_gL N o g sx C) i j) : ∃ kk, Ff N o kk g C FF := by
  have hl := gL_len (sx := sx) h ha
  have hn := h.n1
  have vd : Vd (N + 1) FF := vd_cg (fun i j hi hj => (hF i j hi hj).symm) (gL_vd h ha)
  obtain ⟨kk, hk, e⟩ := mem_gD.1 ((gL_mem (sx := sx) h ha).2 (.inl rfl))
  rw [hl] at hk
  have eG : ∀ j, j < 10 → FF kk j = q_gc g C o j := fun j hj => by rw [hF kk j hk hj]; unfold lG; rw [e]
  have rkO : ∀ k, q_inA C o k = false → q_rk g C o k = (rowO g sx k).1 := fun k hA => by unfold q_rk; rw [hA]; rfl
  have rkM : ∀ k, q_inA C o k = true → q_rk g C o k = (rowM g sx (q_gc g C o) k).1 := fun k hA => by unfold q_rk; rw [hA]; rfl
  refine ⟨kk, vd, hk, eG, fun k hk' => ?_, fun u hu hne => ?_⟩
  · cases hA : q_inA C o k
    · obtain ⟨u, hu, e⟩ := mem_gD.1 ((gL_mem (sx := sx) h ha).2 (.inr ⟨k, hk', .inr ⟨hA, rfl⟩⟩))
      rw [hl] at hu
      exact ⟨u, hu, fun j hj => by rw [hF u j hu hj, rkO k hA]; unfold lG; rw [e]⟩
    · obtain ⟨u, hu, e⟩ := mem_gD.1 ((gL_mem (sx := sx) h ha).2 (.inr ⟨k, hk', .inl ⟨hA, rfl⟩⟩))
      rw [hl] at hu
      exact ⟨u, hu, fun j hj => by rw [hF u j hu hj, rkM k hA]; unfold lG; rw [e]⟩
  · rcases (gL_mem (sx := sx) h ha).1 (mem_gD.2 ⟨u, by rw [hl]; exact hu, rfl⟩) with e | ⟨k, hk', ⟨hA, e⟩ | ⟨hA, e⟩⟩
    · refine absurd (vd.u u kk hu hk ?_) hne
      rw [eG 0 (by omega), hF u 0 hu (by omega)]
      unfold lG
      rw [e]
    · exact ⟨k, hk', fun j hj => by rw [hF u j hu hj, rkM k hA]; unfold lG; rw [e]⟩
    · exact ⟨k, hk', fun j hj => by rw [hF u j hu hj, rkO k hA]; unfold lG; rw [e]⟩
theorem j10 {P : Nat → Prop} (h0 : P 0) (h1 : P 1) (h2 : P 2) (h3 : P 3) (h4 : P 4) (h5 : P 5) (h6 : P 6) (h7 : P 7) (h8 : P 8) (h9 : P 9) : ∀ j, j < 10 → P j := fun j hj => by
  rcases (by omega : j = 0 ∨ j = 1 ∨ j = 2 ∨ j = 3 ∨ j = 4 ∨ j = 5 ∨ j = 6 ∨ j = 7 ∨ j = 8 ∨ j = 9) with rfl | rfl | rfl | rfl | rfl | rfl | rfl | rfl | rfl | rfl <;> assumption
/-- Ungroup's row is the one of before. -/
theorem ug_row (h : Gw N g) (ha : Ga N o g C) {c r : Nat → Int} {k : Nat} (hk : k < N) (hc : ∀ j, j < 10 → c j = q_gc g C o j) (hr : ∀ j, j < 10 → r j = q_rk g C o k j) : ∀ j, j < 10 → q_ug c 77 r j = g k j := by
  have hn := h.n1
  have hp := par_bd h hk
  have hf := h.f k hk
  have c1 : c 1 = g (C 0 0).toNat 1 := hc 1 (by omega)
  have c7 : c 7 = 0 := hc 7 (by omega)
  have f8 : (if (g k 8 == 77) = true then 0 else g k 8) = g k 8 := if_neg (by simp; omega)
  have f9 : (if (g k 9 == 77) = true then 0 else g k 9) = g k 9 := if_neg (by simp; omega)
  cases hA : q_inA C o k
  · have e : q_rk g C o k = g k := by unfold q_rk; rw [hA]; rfl
    rw [e] at hr
    have n1 : ¬ (r 1 == 77) = true := by rw [hr 1 (by omega)]; simp; omega
    refine j10 ?_ ?_ ?_ ?_ ?_ ?_ ?_ ?_ ?_ ?_
    · exact hr 0 (by omega)
    · show (if (r 1 == 77) = true then c 1 else r 1) = _; rw [if_neg n1]; exact hr 1 (by omega)
    · exact hr 2 (by omega)
    · show (if (r 1 == 77) = true then q_ugX c r else r 3) = _; rw [if_neg n1]; exact hr 3 (by omega)
    · show (if (r 1 == 77) = true then q_ugY c r else r 4) = _; rw [if_neg n1]; exact hr 4 (by omega)
    · exact hr 5 (by omega)
    · exact hr 6 (by omega)
    · show (if (r 1 == 77) = true then q_ugT c r else r 7) = _; rw [if_neg n1]; exact hr 7 (by omega)
    · show (if (r 8 == 77) = true then 0 else r 8) = _; rw [hr 8 (by omega)]; exact f8
    · show (if (r 9 == 77) = true then 0 else r 9) = _; rw [hr 9 (by omega)]; exact f9
  · have e : q_rk g C o k = q_c10 (g k 0) 77 (g k 2) (g k 3 - q_gc g C o 3) (g k 4 - q_gc g C o 4) (g k 5) (g k 6) (g k 7) (g k 8) (g k 9) := by unfold q_rk; rw [hA]; rfl
    rw [e] at hr
    have y1 : (r 1 == 77) = true := by rw [hr 1 (by omega)]; rfl
    have n7 : ¬ (c 7 != 0) = true := by rw [c7]; decide
    have r3 : r 3 = g k 3 - q_gc g C o 3 := hr 3 (by omega)
    have r4 : r 4 = g k 4 - q_gc g C o 4 := hr 4 (by omega)
    have r8 : r 8 = g k 8 := hr 8 (by omega)
    have r9 : r 9 = g k 9 := hr 9 (by omega)
    have c3 := hc 3 (by omega)
    have c4 := hc 4 (by omega)
    refine j10 ?_ ?_ ?_ ?_ ?_ ?_ ?_ ?_ ?_ ?_
    · exact hr 0 (by omega)
    · show (if (r 1 == 77) = true then c 1 else r 1) = _; rw [if_pos y1, c1]; exact (ha.pr k hA).symm
    · exact hr 2 (by omega)
    · show (if (r 1 == 77) = true then q_ugX c r else r 3) = _; rw [if_pos y1]; unfold q_ugX; rw [if_neg n7]; omega
    · show (if (r 1 == 77) = true then q_ugY c r else r 4) = _; rw [if_pos y1]; unfold q_ugY; rw [if_neg n7]; omega
    · exact hr 5 (by omega)
    · exact hr 6 (by omega)
    · show (if (r 1 == 77) = true then q_ugT c r else r 7) = _; rw [if_pos y1]; unfold q_ugT; rw [if_neg n7]; exact hr 7 (by omega)
    · show (if (r 8 == 77) = true then 0 else r 8) = _; rw [r8]; exact f8
    · show (if (r 9 == 77) = true then 0 else r 9) = _; rw [r9]; exact f9
theorem up_ne {i : Nat} (hi : i < N) : q_up kk i < N + 1 ∧ q_up kk i ≠ kk := by unfold q_up; split <;> omega
theorem u_only (h : Gw N g) (ha : Ga N o g C) (hf : Ff N o kk g C FF) {i : Nat} (hi : i < N) : ∃ k, k < N ∧ ∀ j, j < 10 → q_uG kk 77 FF i j = g k j := by
  obtain ⟨u1, u2⟩ := up_ne (kk := kk) hi
  obtain ⟨k, hk, e⟩ := hf.only _ u1 u2
  exact ⟨k, hk, ug_row h ha hk hf.G e⟩
theorem u_has (h : Gw N g) (ha : Ga N o g C) (hf : Ff N o kk g C FF) {k : Nat} (hk : k < N) : ∃ i, i < N ∧ ∀ j, j < 10 → q_uG kk 77 FF i j = g k j := by
  have hn := h.n1
  obtain ⟨u, hu, e⟩ := hf.has k hk
  have hne : u ≠ kk := fun q => by
    have e0 := e 0 (by omega)
    rw [q, hf.G 0 (by omega), rk_0, h.i0 k hk] at e0
    have : q_gc g C o 0 = 77 := rfl
    omega
  have hk' := hf.kl
  have e' : ∃ i, i < N ∧ q_up kk i = u := by
    by_cases c : u < kk
    · exact ⟨u, by omega, by unfold q_up; rw [if_pos c]⟩
    · exact ⟨u - 1, by omega, by unfold q_up; rw [if_neg (by omega)]; omega⟩
  obtain ⟨i, hi, rfl⟩ := e'
  exact ⟨i, hi, ug_row h ha hk hf.G e⟩
theorem gw_vd (h : Gw N g) : Vd N g where
  u := fun i j hi hj e => by rw [h.i0 i hi, h.i0 j hj] at e; omega
  p := fun i hi => by
    rcases h.p i hi with z | ⟨j, hj, h1, h2⟩
    · exact .inl z
    · exact .inr ⟨j, hj, by rw [h1, h.i0 j (by omega)], h2⟩
  c := fun i hi => by
    have := c1_O (sx := fun _ _ => emp) h hi
    rw [← this]
    exact c1_cg2 rfl
where c1_cg2 {i : Nat} (_ : True = True) : q_c1 g i = q_c1 (fun _ => (rowO g (fun _ _ => emp) i).1) 0 := rfl
theorem u_vd (h : Gw N g) (ha : Ga N o g C) (hf : Ff N o kk g C FF) : Vd N (q_uG kk 77 FF) := un_vd hf.kl hf.vd (hf.G 0 (by omega)) (fun i hi => by
  obtain ⟨k, hk, e⟩ := u_only h ha hf hi
  have : q_c1 (q_uG kk 77 FF) i = q_c1 (fun _ => g k) i := c1_cg (fun j hj => e j hj)
  rw [this]
  exact (gw_vd h).c k hk)
end
section
variable {N o kk : Nat} {g C FF Gl : Nat → Nat → Int}
theorem cx_cg {c d : Nat → Int} (h : ∀ j, j < 10 → c j = d j) (q : Nat) : q_cx c q = q_cx d q ∧ q_cy c q = q_cy d q := by
  have e3 := h 3 (by omega)
  have e4 := h 4 (by omega)
  have e5 := h 5 (by omega)
  have e6 := h 6 (by omega)
  have e7 := h 7 (by omega)
  rcases q with _ | _ | _ | q <;> simp only [q_cx, q_cy, e3, e4, e5, e6, e7] <;> exact ⟨trivial, trivial⟩
theorem cx_mv {c d : Nat → Int} {a b : Int} (h3 : d 3 = c 3 - a) (h4 : d 4 = c 4 - b) (h5 : d 5 = c 5) (h6 : d 6 = c 6) (h7 : d 7 = c 7) (q : Nat) : q_cx d q = q_cx c q - a ∧ q_cy d q = q_cy c q - b := by
  have e1 : 2 * (c 3 - a) + c 5 = 2 * c 3 + c 5 - 2 * a := by omega
  have e2 : 2 * (c 4 - b) + c 6 = 2 * c 4 + c 6 - 2 * b := by omega
  have e3 : c 3 - a + c 5 = c 3 + c 5 - a := by omega
  have e4 : c 4 - b + c 6 = c 4 + c 6 - b := by omega
  rcases q with _ | _ | _ | q <;> simp only [q_cx, q_cy, h3, h4, h5, h6, h7, e1, e2, e3, e4] <;> exact tx_mv _ _ _ _ _ _ _
theorem via77 (hf : Ff N o kk g C FF) {x y : Int} {z : Int × Int} (h : Ch (N + 1) FF (g (C 0 0).toNat 1) x y z) : Ch (N + 1) FF 77 (x - q_gc g C o 3) (y - q_gc g C o 4) z := by
  have e0 : FF kk 0 = 77 := hf.G 0 (by omega)
  have e1 : FF kk 1 = g (C 0 0).toNat 1 := hf.G 1 (by omega)
  have e7 : FF kk 7 = 0 := hf.G 7 (by omega)
  have e3 := hf.G 3 (by omega)
  have e4 := hf.G 4 (by omega)
  have := Ch.step (n := N + 1) (g := FF) kk (x - q_gc g C o 3) (y - q_gc g C o 4) z hf.kl (by rw [e0]; decide) (by
    rw [e7, (tx_zer _ _ _ _).1, (tx_zer _ _ _ _).2, e1, e3, e4, Int.sub_add_cancel, Int.sub_add_cancel]; exact h)
  rwa [e0] at this
theorem ch_F (h : Gw N g) (ha : Ga N o g C) (hf : Ff N o kk g C FF) (hGl : ∀ i j, i < N → j < 10 → Gl i j = g i j) {p x y : Int} {z : Int × Int} (c : Ch N Gl p x y z) : Ch (N + 1) FF p x y z := by
  induction c with
  | zero x y => exact .zero x y
  | step k x y z hk h0 _ ih =>
    obtain ⟨u, hu, e⟩ := hf.has k hk
    have l := fun j hj => hGl k j hk hj
    rw [l 1 (by omega), l 3 (by omega), l 4 (by omega), l 5 (by omega), l 6 (by omega), l 7 (by omega)] at ih
    have e0 : FF u 0 = Gl k 0 := by rw [e 0 (by omega), rk_0, l 0 (by omega)]
    have key := Ch.step (n := N + 1) (g := FF) u x y z hu (by rw [e0]; exact h0)
    rw [e0] at key
    refine key ?_
    cases hA : q_inA C o k
    · have er : q_rk g C o k = g k := by unfold q_rk; rw [hA]; rfl
      rw [er] at e
      rw [e 1 (by omega), e 3 (by omega), e 4 (by omega), e 5 (by omega), e 6 (by omega), e 7 (by omega)]
      exact ih
    · have er : q_rk g C o k = q_c10 (g k 0) 77 (g k 2) (g k 3 - q_gc g C o 3) (g k 4 - q_gc g C o 4) (g k 5) (g k 6) (g k 7) (g k 8) (g k 9) := by unfold q_rk; rw [hA]; rfl
      rw [er] at e
      have e1 : FF u 1 = 77 := e 1 (by omega)
      have e3 : FF u 3 = g k 3 - q_gc g C o 3 := e 3 (by omega)
      have e4 : FF u 4 = g k 4 - q_gc g C o 4 := e 4 (by omega)
      have e5 : FF u 5 = g k 5 := e 5 (by omega)
      have e6 : FF u 6 = g k 6 := e 6 (by omega)
      have e7 : FF u 7 = g k 7 := e 7 (by omega)
      rw [e1, e3, e4, e5, e6, e7]
      have m := tx_mv (x + g k 3) (y + g k 4) (2 * g k 3 + g k 5) (2 * g k 4 + g k 6) (g k 7) (q_gc g C o 3) (q_gc g C o 4)
      rw [show x + (g k 3 - q_gc g C o 3) = x + g k 3 - q_gc g C o 3 by omega, show y + (g k 4 - q_gc g C o 4) = y + g k 4 - q_gc g C o 4 by omega, show 2 * (g k 3 - q_gc g C o 3) + g k 5 = 2 * g k 3 + g k 5 - 2 * q_gc g C o 3 by omega, show 2 * (g k 4 - q_gc g C o 4) + g k 6 = 2 * g k 4 + g k 6 - 2 * q_gc g C o 4 by omega, m.1, m.2]
      rw [ha.pr k hA] at ih
      exact via77 hf ih
/-- A row's corners by what is found under its item. -/
theorem vi_at {n : Nat} {G : Nat → Nat → Int} (hv : Vd n G) {u : Nat} (hu : u < n) (q : Nat) : q_vi n G (G u 0) q = q_ou n G 20 (G u 1) (q_cx (G u) q) (q_cy (G u) q) := by
  unfold q_vi q_vc
  rw [vd_fd hv (Nat.le_refl n) hu, Int.toNat_natCast]
theorem cor_F (h : Gw N g) (ha : Ga N o g C) (hf : Ff N o kk g C FF) (hGl : ∀ i j, i < N → j < 10 → Gl i j = g i j) {k : Nat} (hk : k < N) (q : Nat) : q_vi (N + 1) FF (Gl k 0) q = q_vi N Gl (Gl k 0) q := by
  have hn := h.n1
  have vl : Vd N Gl := vd_cg (fun i j hi hj => (hGl i j hi hj).symm) (gw_vd h)
  obtain ⟨u, hu, e⟩ := hf.has k hk
  have l := fun j hj => hGl k j hk hj
  have e0 : FF u 0 = Gl k 0 := by rw [e 0 (by omega), rk_0, l 0 (by omega)]
  have pl := vd_pe vl 20 k N 1 (by omega) (Nat.le_refl N) hk (by omega) (by omega)
  have c0 := ou_ch vl 20 (Gl k 1) (q_cx (Gl k) q) (q_cy (Gl k) q) 1 pl
  have c1 := ch_F h ha hf hGl c0
  have pu := vd_pe hf.vd 20 u (N + 1) 1 (by omega) (Nat.le_refl _) hu (by omega) (by omega)
  rw [vi_at vl hk, ← e0, vi_at hf.vd hu]
  refine ch_ou hf.vd ?_ 20 1 pu
  have g1 := cx_cg (c := Gl k) (d := g k) l q
  cases hA : q_inA C o k
  · have er : q_rk g C o k = g k := by unfold q_rk; rw [hA]; rfl
    rw [er] at e
    have g2 := cx_cg (c := FF u) (d := g k) e q
    rw [e 1 (by omega), g2.1, g2.2, ← g1.1, ← g1.2, ← l 1 (by omega)]
    exact c1
  · have er : q_rk g C o k = q_c10 (g k 0) 77 (g k 2) (g k 3 - q_gc g C o 3) (g k 4 - q_gc g C o 4) (g k 5) (g k 6) (g k 7) (g k 8) (g k 9) := by unfold q_rk; rw [hA]; rfl
    rw [er] at e
    have g2 := cx_mv (c := g k) (d := FF u) (a := q_gc g C o 3) (b := q_gc g C o 4) (e 3 (by omega)) (e 4 (by omega)) (e 5 (by omega)) (e 6 (by omega)) (e 7 (by omega)) q
    have e1 : FF u 1 = 77 := e 1 (by omega)
    rw [e1, g2.1, g2.2, ← g1.1, ← g1.2]
    refine via77 hf ?_
    rw [← ha.pr k hA, ← l 1 (by omega)]
    exact c1
/-- The same rows in whatever order. -/
theorem ch_same {n : Nat} {U : Nat → Nat → Int} (hs : ∀ k, k < N → ∃ i, i < n ∧ ∀ j, j < 10 → U i j = Gl k j) {p x y : Int} {z : Int × Int} (c : Ch N Gl p x y z) : Ch n U p x y z := by
  induction c with
  | zero x y => exact .zero x y
  | step k x y z hk h0 _ ih =>
    obtain ⟨i, hi, e⟩ := hs k hk
    have key := Ch.step (n := n) (g := U) i x y z hi (by rw [e 0 (by omega)]; exact h0)
    rw [e 0 (by omega), e 1 (by omega), e 3 (by omega), e 4 (by omega), e 5 (by omega), e 6 (by omega), e 7 (by omega)] at key
    exact key ih
theorem cor_U {n : Nat} {U : Nat → Nat → Int} (hn : n ≤ 12) (hN : N ≤ 12) (vl : Vd N Gl) (vu : Vd n U) (hs : ∀ k, k < N → ∃ i, i < n ∧ ∀ j, j < 10 → U i j = Gl k j) {k : Nat} (hk : k < N) (q : Nat) : q_vi n U (Gl k 0) q = q_vi N Gl (Gl k 0) q := by
  obtain ⟨i, hi, e⟩ := hs k hk
  have pl := vd_pe vl 20 k N 1 (by omega) (Nat.le_refl N) hk (by omega) (by omega)
  have pu := vd_pe vu 20 i n 1 (by omega) (Nat.le_refl _) hi (by omega) (by omega)
  have c0 := ch_same hs (ou_ch vl 20 (Gl k 1) (q_cx (Gl k) q) (q_cy (Gl k) q) 1 pl)
  rw [vi_at vl hk, ← e 0 (by omega), vi_at vu hi]
  refine ch_ou vu ?_ 20 1 pu
  have g2 := cx_cg (c := U i) (d := Gl k) e q
  rw [e 1 (by omega), g2.1, g2.2]
  exact c0
theorem F_Cd (h : Gw N g) (ha : Ga N o g C) (hf : Ff N o kk g C FF) : Cd (N + 1) FF := fun i hi => by
  have hc := gc_bd h ha
  by_cases c : i = kk
  · subst c
    have e7 : FF i 7 = 0 := hf.G 7 (by omega)
    rw [hf.G 3 (by omega), hf.G 4 (by omega), hf.G 5 (by omega), hf.G 6 (by omega), e7]
    omega
  · obtain ⟨k, hk, e⟩ := hf.only i hi c
    have hs := h.s k hk
    have r3 : q_rk g C o k 3 = g k 3 ∨ q_rk g C o k 3 = g k 3 - q_gc g C o 3 := by unfold q_rk; split; exact .inr rfl; exact .inl rfl
    have r4 : q_rk g C o k 4 = g k 4 ∨ q_rk g C o k 4 = g k 4 - q_gc g C o 4 := by unfold q_rk; split; exact .inr rfl; exact .inl rfl
    have r5 : q_rk g C o k 5 = g k 5 := by unfold q_rk; split <;> rfl
    have r6 : q_rk g C o k 6 = g k 6 := by unfold q_rk; split <;> rfl
    have r7 : q_rk g C o k 7 = g k 7 := by unfold q_rk; split <;> rfl
    rw [e 3 (by omega), e 4 (by omega), e 5 (by omega), e 6 (by omega), e 7 (by omega), r5, r6, r7]
    omega
theorem G_Cd (h : Gw N g) (hGl : ∀ i, i < N → ∃ k, k < N ∧ ∀ j, j < 10 → Gl i j = g k j) : Cd N Gl := fun i hi => by
  obtain ⟨k, hk, e⟩ := hGl i hi
  have hs := h.s k hk
  rw [e 3 (by omega), e 4 (by omega), e 5 (by omega), e 6 (by omega), e 7 (by omega)]
  omega
end
/-! the law's drawing -/
theorem shG_gw (n : Nat) (hn : 0 < n) (g : Nat → Nat → Int) : Gw (min n 10) (q_shG true g) where
  n0 := by omega
  n1 := Nat.min_le_right _ _
  i0 := fun i _ => rfl
  k := fun i _ => within_in _ _ _ (by omega)
  s := fun i _ => ⟨within_in _ _ _ (by omega), within_in _ _ _ (by omega), within_in _ _ _ (by omega), within_in _ _ _ (by omega), within_in (g i 7) 0 3599 (by omega)⟩
  f := fun i _ => by
    have e2 : q_shG true g i 2 = q_within (g i 2) 0 7 := rfl
    have e8 : q_shG true g i 8 = if q_within (g i 2) 0 7 = 6 then q_within (g i 8) 0 11 else 0 := rfl
    have e9 : q_shG true g i 9 = if q_within (g i 2) 0 7 = 6 then q_within (g i 9) 0 11 else 0 := rfl
    have w8 := within_in (g i 8) 0 11 (by omega)
    have w9 := within_in (g i 9) 0 11 (by omega)
    rw [e2, e8, e9]
    by_cases c : q_within (g i 2) 0 7 = 6
    · rw [if_pos c, if_pos c]; exact ⟨w8, w9, fun h => absurd c h⟩
    · rw [if_neg c, if_neg c]; exact ⟨by omega, by omega, fun _ => ⟨rfl, rfl⟩⟩
  p := fun i _ => by
    show q_spar g i = 0 ∨ ∃ j, j < i ∧ q_spar g i = j + 1 ∧ q_within (g j 2) 0 7 = 5
    unfold q_spar
    by_cases c : (0 < i ∧ (g i 1).tmod 3 = 0) ∧ q_within (g (q_sk g i).toNat 2) 0 7 = 5
    · rw [if_pos c]
      have := sk_in (g := g) c.1.1
      exact .inr ⟨(q_sk g i).toNat, by omega, by omega, c.2⟩
    · rw [if_neg c]; exact .inl rfl
theorem gw_cg {N : Nat} {g g' : Nat → Nat → Int} (e : ∀ i j, j < 10 → g' i j = g i j) (h : Gw N g) : Gw N g' where
  n0 := h.n0
  n1 := h.n1
  i0 := fun i hi => by rw [e i 0 (by omega)]; exact h.i0 i hi
  k := fun i hi => by rw [e i 2 (by omega)]; exact h.k i hi
  s := fun i hi => by rw [e i 3 (by omega), e i 4 (by omega), e i 5 (by omega), e i 6 (by omega), e i 7 (by omega)]; exact h.s i hi
  f := fun i hi => by rw [e i 2 (by omega), e i 8 (by omega), e i 9 (by omega)]; exact h.f i hi
  p := fun i hi => by
    rw [e i 1 (by omega)]
    rcases h.p i hi with z | ⟨j, hj, h1, h2⟩
    · exact .inl z
    · exact .inr ⟨j, hj, h1, by rw [e j 2 (by omega)]; exact h2⟩
/-! ShapeGroupStays: the join -/
theorem al_all {n o : Nat} {g B : Nat → Nat → Int} : ∀ r i, i + r = o → q_alE n g B r i = 0 → ∀ k, i ≤ k → k < o → q_al1 n g B k = 0 := by
  intro r
  induction r with
  | zero => intro i hi _ k h1 h2; omega
  | succ r ih =>
    intro i hi h k h1 h2
    unfold q_alE at h
    by_cases c : q_al1 n g B i = 0
    · rw [if_neg (fun q => q c)] at h
      by_cases e : k = i
      · rw [e]; exact c
      · exact ih (i + 1) (by omega) h k (by omega) h2
    · rw [if_pos c] at h; exact absurd h c
theorem alE_v {n o : Nat} {g B : Nat → Nat → Int} (hd : ∀ a b, a < o → b < o → B a 0 = B b 0 → a = b) : ∀ r i, i + r = o → q_alE n g B r i = 0 ∨ q_alE n g B r i = 7 ∨ q_alE n g B r i = 14 := by
  intro r
  induction r with
  | zero => intro i _; exact .inl rfl
  | succ r ih =>
    intro i hi
    unfold q_alE
    by_cases c : q_al1 n g B i ≠ 0
    · rw [if_pos c]
      rcases al1_v (n := n) (g := g) (B := B) (i := i) with h | h | h | h
      · exact .inl h
      · exact .inr (.inl h)
      · exfalso
        unfold q_al1 at h
        split at h
        · omega
        · split at h
          · rename_i h2
            rcases fd_spec i B (B i 0) with ⟨e, _⟩ | ⟨k, hk, _, e, _⟩
            · omega
            · have := hd k i (by omega) (by omega) e; omega
          · split at h <;> omega
      · exact .inr (.inr h)
    · rw [if_neg c]; exact ih (i + 1) (by omega)
theorem ga_of {N : Nat} {g P : Nat → Nat → Int} {L : List Int} (h : Gw N g) (hL : L ≠ []) (hlen : L.length ≤ 12) (hal : ∀ i, i < L.length → q_al1 N g (q_lB L) i = 0) (hP : ∀ i, i < L.length → P i 0 = q_fd N g (L.getD i 0)) : Ga N L.length g (q_so P L.length) := by
  have hpos : 0 < L.length := List.length_pos_iff.2 hL
  obtain ⟨s1, s2⟩ := so_P (n := L.length) (B := P) L.length (Nat.le_refl _)
  have srt := so_srt P L.length
  have hr : ∀ i, i < L.length → (0 ≤ q_fd N g (L.getD i 0) ∧ q_fd N g (L.getD i 0) < N) ∧ g (q_fd N g (L.getD i 0)).toNat 1 = g (q_fd N g (L.getD 0 0)).toNat 1 := fun i hi => by
    have := hal i hi
    have r := fd_rng N g (L.getD i 0)
    unfold q_al1 q_lB at this
    split at this
    · omega
    · split at this
      · omega
      · split at this
        · omega
        · rename_i h1 _ h3
          exact ⟨⟨by omega, r.2⟩, by simpa using h3⟩
  generalize q_so P L.length = C at *
  have cr : ∀ i, i < L.length → 0 ≤ C i 0 ∧ C i 0 < N := fun i hi => by
    obtain ⟨k, hk, e⟩ := s1 i hi
    rw [e, hP k hk]; exact (hr k hk).1
  have inA : ∀ k, q_inA C L.length k = true → ∃ i, i < L.length ∧ C i 0 = (k : Int) := fun k hk => by
    have hk : q_fd L.length C (k : Int) ≥ 0 := of_decide_eq_true hk
    rcases fd_spec L.length C (k : Int) with ⟨e, _⟩ | ⟨i, hi, _, e, _⟩
    · omega
    · exact ⟨i, hi, e⟩
  have pr : ∀ i, i < L.length → g (C i 0).toNat 1 = g (q_fd N g (L.getD 0 0)).toNat 1 := fun i hi => by
    obtain ⟨k, hk, e⟩ := s1 i hi
    rw [e, hP k hk]; exact (hr k hk).2
  have c0 := cr 0 hpos
  refine ⟨hpos, hlen, cr, ?_, fun k hk => ?_, fun k hk => ?_⟩
  · refine decide_eq_true ?_
    rw [Int.toNat_of_nonneg c0.1]
    rcases fd_spec L.length C (C 0 0) with ⟨_, e⟩ | ⟨i, _, e, _⟩
    · exact absurd rfl (e 0 hpos)
    · omega
  · obtain ⟨i, hi, e⟩ := inA k hk
    have ci := cr i hi
    by_cases z : i = 0
    · subst z; omega
    · have := srt 0 i (by omega) hi; omega
  · obtain ⟨i, hi, e⟩ := inA k hk
    have p1 := pr i hi
    have p0 := pr 0 hpos
    rw [e, Int.toNat_natCast] at p1
    rw [p1, p0]
theorem a1_loop (fl N N2 m o : Nat) (hN : N ≤ 1000) (g gg gk : Nat → Nat → Int) (sx sg sk : Nat → Nat → ByteArray) (jx jg jk r2 ro : Nat → Nat → PS) (q : Int) (h1 : ∀ i, i < N → q_crP N (rwj g sx jx) (g i 0)) (h2 : ∀ i, i < N → q_crP N2 (rwj gg sg jg) (g i 0)) (h3 : ∀ i, i < N → q_crP N (rwj gk sk jk) (g i 0)) (h4 : ∀ i, i < N → q_ptE (q_cr N (rwj g sx jx) (g i 0)) (q_cr N2 (rwj gg sg jg) (g i 0))) (h5 : ∀ i, i < N → q_ptE (q_cr N (rwj g sx jx) (g i 0)) (q_cr N (rwj gk sk jk) (g i 0))) : ∀ (r i mm : Nat), i + r = N → r < mm →
    rounds (yS fl pS1) (kS fl pS1) mm (hS1 N N2 m o (rwj g sx jx) (rwj gg sg jg) (rwj gk sk jk) r2 ro q (i : Nat)) [] = some (bl true, []) := by
  intro r
  induction r with
  | zero =>
    intro i mm hi hmm
    obtain ⟨mm, rfl⟩ : ∃ k, mm = k + 1 := ⟨mm - 1, by omega⟩
    rw [a1_open, a1_a, if_neg (by simp; omega)]
    exact a1_end fl mm N N2 m o _ _ _ r2 ro q _
  | succ r ih =>
    intro i mm hi hmm
    obtain ⟨mm, rfl⟩ : ∃ k, mm = k + 1 := ⟨mm - 1, by omega⟩
    rw [a1_open, a1_a, if_pos (by simp; omega), chk_true (by simp; omega), Int.toNat_natCast, if_pos (q_dec_iff.2 (h1 i (by omega))), if_pos (q_dec_iff.2 (h2 i (by omega))), if_pos (q_dec_iff.2 (h3 i (by omega)))]
    refine (a1_b fl mm N N2 m o (rwj g sx jx) (rwj gg sg jg) (rwj gk sk jk) r2 ro (q_cr N (rwj g sx jx) (g i 0)) (q_cr N2 (rwj gg sg jg) (g i 0)) (q_cr N (rwj gk sk jk) (g i 0)) q (i : Nat) (g i) (sx i 10) (sx i 11)).trans ?_
    rw [if_pos (q_dec_iff.2 (h4 i (by omega))), if_pos (q_dec_iff.2 (h5 i (by omega))), W_nat (by omega)]
    exact ih (i + 1) mm (by omega) (by omega)
theorem a0_step (fl mm n m i : Nat) (hm : m ≤ 9223372036854775807) (g : Nat → Nat → Int) (sx : Nat → Nat → ByteArray) (jx : Nat → Nat → PS) (B : Nat → Nat → Int) (J : Nat → Nat → PS) (hi : i < m) (C : Nat → Nat → Int) (K : Nat → Nat → PS) (hA : AgB (q_ow B i).length C (q_lB (q_ow B i))) :
    ∃ s : (Nat → Nat → Int) × (Nat → Nat → PS), AgB (q_ow B (i + 1)).length s.1 (q_lB (q_ow B (i + 1))) ∧
    rounds (yS fl pS0) (kS fl pS0) (mm + 1) (hS0 m (rj 1 B J) (.os 24) (if q_ow B i = [] then .nils else .os 40) (i : Nat)) (if q_ow B i = [] then [(24, .rows 26 12 (n + 1) (rwj g sx jx))] else (40, .rows 3 1 (q_ow B i).length (rj 1 C K)) :: [(24, .rows 26 12 (n + 1) (rwj g sx jx))]) =
    rounds (yS fl pS0) (kS fl pS0) mm (hS0 m (rj 1 B J) (.os 24) (if q_ow B (i + 1) = [] then .nils else .os 40) ((i + 1 : Nat) : Int)) (if q_ow B (i + 1) = [] then [(24, .rows 26 12 (n + 1) (rwj g sx jx))] else (40, .rows 3 1 (q_ow B (i + 1)).length (rj 1 s.1 s.2)) :: [(24, .rows 26 12 (n + 1) (rwj g sx jx))]) := by
  have hS : q_ow B (i + 1) = if q_within (B i 0) 1 10 ∈ q_ow B i then q_ow B i else q_ow B i ++ [q_within (B i 0) 1 10] := rfl
  have hlen := ow_len B i
  rw [hS]
  generalize q_ow B i = L at *
  by_cases hL : L = []
  · subst hL
    obtain ⟨K', e⟩ := lit1 (q_within (B i 0) 1 10)
    have key := a0_n fl mm n m g sx jx B J (i : Nat)
    rw [if_pos (by simp; omega), chk_true (by simp; omega), Int.toNat_natCast, W_nat (by omega), e] at key
    exact ⟨(_, K'), ow_new hA, key⟩
  · have hpos : 0 < L.length := List.length_pos_iff.2 hL
    have hnum : q_num L.length 1 (rj 1 C K) = cut L.length 1 C := num_rj
    have hfd : ∀ x, q_fd L.length (cut L.length 1 C) x = q_fd L.length C x := fun x => fd_cg (fun k hk => cut_in hk (by omega))
    have key := a0_s fl mm n m L.length g sx jx B C J K (i : Nat)
    rw [if_pos (by simp; omega), chk_true (by simp; omega), Int.toNat_natCast, W_nat (by omega), if_pos (q_dec_iff.2 ⟨⟨C, K, rfl⟩, by omega⟩), hnum, hfd, own_fd hA] at key
    by_cases c : q_within (B i 0) 1 10 ∈ L
    · rw [decide_eq_true c, if_neg (by decide)] at key
      rw [if_pos c]
      simp only [if_neg hL]
      exact ⟨(C, K), hA, key⟩
    · have hLM : ¬ (L ++ [q_within (B i 0) 1 10] = []) := fun q => hL (List.append_eq_nil_iff.1 q).1
      obtain ⟨K', e⟩ := app_rj 1 L.length C K [q_within (B i 0) 1 10] rfl
      have e' : appRow L.length (rj 1 C K) (litRow 1 [PS.int .i64 (q_within (B i 0) 1 10)]) = rj 1 (appB L.length C [q_within (B i 0) 1 10]) K' := e
      rw [decide_eq_false c, if_pos (by decide), if_pos (by simp; omega), e'] at key
      rw [if_neg c]
      simp only [if_neg hL, if_neg hLM]
      refine ⟨(_, K'), ow_new hA, key.trans ?_⟩
      rw [List.length_append, List.length_singleton]
      rfl
theorem ptE_of {n m : Nat} {r s : Nat → Nat → PS} {x : Int} (h : ∀ q, q_vi m (q_nu m s) x q = q_vi n (q_nu n r) x q) : q_ptE (q_cr n r x) (q_cr m s x) := by
  refine ⟨?_, _, _, _, _, _, _, _, _, rfl⟩
  unfold q_cr crV
  rw [h 0, h 1, h 2, h 3]
/-- All that the law asks for where Group answers a drawing. -/
theorem ok_all (n o : Nat) (g : Nat → Nat → Int) (sx : Nat → Nat → ByteArray) (jx K : Nat → Nat → PS) (D : Nat → Nat → Int) (L : List Int) (hw : Gw (n + 1) g) (hL : L ≠ []) (hlen : L.length ≤ 12) (hE : q_alE (n + 1) g (q_lB L) L.length 0 = 0) (ho : o = L.length) (hA : AgB L.length D (q_lB L)) :
    q_grP (n + 1) o (rwj g sx jx) (rj 1 D K) ∧ q_unP (n + 2) (q_rw (q_grG (n + 1) o (rwj g sx jx) (rj 1 D K)) (q_grS (n + 1) o (rwj g sx jx) (rj 1 D K))) 77 ∧
    ∀ kk U, kk = (q_fd (n + 2) (q_nu (n + 2) (q_rw (q_grG (n + 1) o (rwj g sx jx) (rj 1 D K)) (q_grS (n + 1) o (rwj g sx jx) (rj 1 D K)))) 77).toNat → U = q_uG kk 77 (q_nu (n + 2) (q_rw (q_grG (n + 1) o (rwj g sx jx) (rj 1 D K)) (q_grS (n + 1) o (rwj g sx jx) (rj 1 D K)))) → ∀ S, ∀ i, i < n + 1 →
      q_crP (n + 1) (rwj g sx jx) (g i 0) ∧ q_crP (n + 2) (q_rw (q_grG (n + 1) o (rwj g sx jx) (rj 1 D K)) (q_grS (n + 1) o (rwj g sx jx) (rj 1 D K))) (g i 0) ∧ q_crP (n + 1) (q_rw U S) (g i 0) ∧ q_ptE (q_cr (n + 1) (rwj g sx jx) (g i 0)) (q_cr (n + 2) (q_rw (q_grG (n + 1) o (rwj g sx jx) (rj 1 D K)) (q_grS (n + 1) o (rwj g sx jx) (rj 1 D K))) (g i 0)) ∧ q_ptE (q_cr (n + 1) (rwj g sx jx) (g i 0)) (q_cr (n + 1) (q_rw U S) (g i 0)) := by
  subst ho
  have hn := hw.n1
  have hpos : 0 < L.length := List.length_pos_iff.2 hL
  have hnum : q_num L.length 1 (rj 1 D K) = cut L.length 1 D := num_rj
  -- the rows
  have e1 : ∀ i j, j < 10 → q_nj (rwj g sx jx) i j = g i j := fun i j hj => nj_rwj hj
  have hw' := gw_cg e1 hw
  have eN : ∀ i j, i < n + 1 → j < 10 → q_nu (n + 1) (rwj g sx jx) i j = g i j := fun i j hi hj => by rw [nu_rwj]; exact cutG_in hi hj
  have eN' : ∀ i j, i < n + 1 → j < 10 → q_nu (n + 1) (rwj g sx jx) i j = q_nj (rwj g sx jx) i j := fun i j hi hj => by rw [eN i j hi hj, e1 i j hj]
  have vg := gw_vd hw
  have vl : Vd (n + 1) (q_nu (n + 1) (rwj g sx jx)) := vd_cg (fun i j hi hj => (eN i j hi hj).symm) vg
  -- the items
  have hal := al_all (o := L.length) L.length 0 (by omega) hE
  have hal' : ∀ i, i < L.length → q_al1 (n + 1) (q_nu (n + 1) (rwj g sx jx)) (cut L.length 1 D) i = 0 := fun i hi => by
    rw [al1_cg (g' := g) (B' := q_lB L) (fun k j hk hj => eN k j hk hj) (fun k hk => (cut_in hk (by omega)).trans (hA k hk)) hi]
    exact hal i (by omega) hi
  have hal2 : ∀ i, i < L.length → q_al1 (n + 1) (q_nj (rwj g sx jx)) (q_lB L) i = 0 := fun i hi => by
    rw [al1_cg (m := L.length) (g' := g) (B' := q_lB L) (fun k j hk hj => e1 k j hj) (fun k hk => rfl) hi]
    exact hal i (by omega) hi
  have ha := ga_of (P := q_pos (n + 1) (q_nu (n + 1) (rwj g sx jx)) (cut L.length 1 D)) hw' hL hlen hal2 (fun i hi => by
    show q_fd (n + 1) (q_nu (n + 1) (rwj g sx jx)) (cut L.length 1 D i 0) = _
    rw [cut_in hi (by omega), hA i hi]
    exact fd_cg (fun k hk => eN' k 0 hk (by omega)))
  have eC : q_grC (n + 1) L.length (rwj g sx jx) (rj 1 D K) = q_so (q_pos (n + 1) (q_nu (n + 1) (rwj g sx jx)) (cut L.length 1 D)) L.length := by unfold q_grC; rw [hnum]
  rw [← eC] at ha
  have eL : q_grL (n + 1) L.length (rwj g sx jx) (rj 1 D K) = q_gL (n + 1) L.length (q_nj (rwj g sx jx)) (q_tj (rwj g sx jx)) (q_grC (n + 1) L.length (rwj g sx jx) (rj 1 D K)) := rfl
  have hlL := gL_len (sx := q_tj (rwj g sx jx)) hw' ha
  have eG : q_grG (n + 1) L.length (rwj g sx jx) (rj 1 D K) = lG (q_gL (n + 1) L.length (q_nj (rwj g sx jx)) (q_tj (rwj g sx jx)) (q_grC (n + 1) L.length (rwj g sx jx) (rj 1 D K))) := rfl
  generalize hC : q_grC (n + 1) L.length (rwj g sx jx) (rj 1 D K) = C at *
  generalize hGG : q_grG (n + 1) L.length (rwj g sx jx) (rj 1 D K) = GG at *
  generalize q_grS (n + 1) L.length (rwj g sx jx) (rj 1 D K) = SS at *
  have eF : q_nu (n + 2) (q_rw GG SS) = cutG (n + 2) GG := nu_rwj
  obtain ⟨kk, hf⟩ := ff_of (FF := cutG (n + 2) GG) (sx := q_tj (rwj g sx jx)) hw' ha (fun i j hi hj => by rw [cutG_in hi hj, eG])
  have hkk : q_fd (n + 2) (cutG (n + 2) GG) 77 = kk := by
    have e0 : cutG (n + 2) GG kk 0 = 77 := hf.G 0 (by omega)
    rw [← e0]; exact vd_fd hf.vd (Nat.le_refl _) hf.kl
  have vu := u_vd hw' ha hf
  have CdF := F_Cd hw' ha hf
  refine ⟨⟨⟨g, sx, jx, rfl⟩, ⟨⟨⟨g, sx, jx, rfl⟩, vd_chk (by omega) vl, by omega⟩, ⟨hpos, hlen, ⟨D, K, rfl⟩⟩, ?_⟩, ?_, ?_⟩, ⟨⟨_, _, _, rfl⟩, by omega, ?_⟩, ?_⟩
  · rw [hnum]; exact hal'
  · rw [hC]; exact gr_ok hw' ha
  · rw [eL]; exact hlL
  · rw [eF]
    refine ⟨vd_chk (by omega) hf.vd, CdF, by rw [hkk]; omega, by rw [hkk, Int.toNat_natCast]; exact hf.G 2 (by omega), ?_⟩
    rw [hkk, Int.toNat_natCast]
    exact vd_chk (by omega) vu
  · intro k' U hk' hU S i hi
    rw [eF, hkk, Int.toNat_natCast] at hk'
    rw [eF] at hU
    subst hk' hU
    have eU : ∀ a b, a < n + 1 → b < 10 → q_nu (n + 1) (q_rw (q_uG k' 77 (cutG (n + 2) GG)) S) a b = q_uG k' 77 (cutG (n + 2) GG) a b := fun a b h1 h2 => by
      have : q_nu (n + 1) (q_rw (q_uG k' 77 (cutG (n + 2) GG)) S) = cutG (n + 1) (q_uG k' 77 (cutG (n + 2) GG)) := nu_rwj
      rw [this]; exact cutG_in h1 h2
    have vU : Vd (n + 1) (q_nu (n + 1) (q_rw (q_uG k' 77 (cutG (n + 2) GG)) S)) := vd_cg (fun a b h1 h2 => (eU a b h1 h2).symm) vu
    have only : ∀ a, a < n + 1 → ∃ k, k < n + 1 ∧ ∀ j, j < 10 → q_nu (n + 1) (q_rw (q_uG k' 77 (cutG (n + 2) GG)) S) a j = q_nj (rwj g sx jx) k j := fun a h1 => by
      obtain ⟨k, hk, e⟩ := u_only hw' ha hf h1
      exact ⟨k, hk, fun j hj => by rw [eU a j h1 hj]; exact e j hj⟩
    have has : ∀ k, k < n + 1 → ∃ a, a < n + 1 ∧ ∀ j, j < 10 → q_nu (n + 1) (q_rw (q_uG k' 77 (cutG (n + 2) GG)) S) a j = q_nu (n + 1) (rwj g sx jx) k j := fun k hk => by
      obtain ⟨a, h1, e⟩ := u_has hw' ha hf hk
      exact ⟨a, h1, fun j hj => by rw [eU a j h1 hj, eN' k j hk hj]; exact e j hj⟩
    have gi : q_nu (n + 1) (rwj g sx jx) i 0 = g i 0 := eN i 0 hi (by omega)
    have f1 : q_fd (n + 1) (q_nu (n + 1) (rwj g sx jx)) (g i 0) = i := by rw [← gi]; exact vd_fd vl (Nat.le_refl _) hi
    have f2 : 0 ≤ q_fd (n + 2) (cutG (n + 2) GG) (g i 0) := by
      obtain ⟨u, hu, e⟩ := hf.has i hi
      have e0 : cutG (n + 2) GG u 0 = g i 0 := by rw [e 0 (by omega), rk_0, e1 i 0 (by omega)]
      rw [← e0, vd_fd hf.vd (Nat.le_refl _) hu]; omega
    have f3 : 0 ≤ q_fd (n + 1) (q_nu (n + 1) (q_rw (q_uG k' 77 (cutG (n + 2) GG)) S)) (g i 0) := by
      obtain ⟨a, h1, e⟩ := has i hi
      rw [← gi, ← e 0 (by omega), vd_fd vU (Nat.le_refl _) h1]; omega
    refine ⟨⟨⟨g, sx, jx, rfl⟩, by omega, vd_chk (by omega) vl, G_Cd hw (fun a h1 => ⟨a, h1, fun j hj => eN a j h1 hj⟩), by rw [f1]; omega⟩, ⟨⟨_, _, _, rfl⟩, by omega, by rw [eF]; exact vd_chk (by omega) hf.vd, by rw [eF]; exact CdF, by rw [eF]; exact f2⟩, ⟨⟨_, _, _, rfl⟩, by omega, vd_chk (by omega) vU, G_Cd hw' only, f3⟩, ptE_of (fun q => ?_), ptE_of (fun q => ?_)⟩
    · rw [eF, ← gi]
      exact cor_F hw' ha hf eN' hi q
    · rw [← gi]
      exact cor_U (by omega) (by omega) vl vU has hi q
theorem a0_law (n m : Nat) (hm : m ≤ 9223372036854775807) (g : Nat → Nat → Int) (sx : Nat → Nat → ByteArray) (jx : Nat → Nat → PS) (B : Nat → Nat → Int) (J : Nat → Nat → PS) (hw : Gw (n + 1) g) (hL : q_ow B m ≠ []) (hE : q_alE (n + 1) g (q_lB (q_ow B m)) (q_ow B m).length 0 = 0) :
    rounds (yS (m + 20) pS0) (kS (m + 20) pS0) (m + 20) (hS0 m (rj 1 B J) (.os 24) .nils ((0 : Nat) : Int)) [(24, .rows 26 12 (n + 1) (rwj g sx jx))] = some (bl true, []) := by
  refine loop_ex (body := yS (m + 20) pS0) (K := kS (m + 20) pS0) (σ := (Nat → Nat → Int) × (Nat → Nat → PS)) (fun i _ => hS0 m (rj 1 B J) (.os 24) (if q_ow B i = [] then .nils else .os 40) ((i : Nat) : Int)) (fun i s => if q_ow B i = [] then [(24, .rows 26 12 (n + 1) (rwj g sx jx))] else (40, .rows 3 1 (q_ow B i).length (rj 1 s.1 s.2)) :: [(24, .rows 26 12 (n + 1) (rwj g sx jx))]) (fun i s => AgB (q_ow B i).length s.1 (q_lB (q_ow B i))) m (Z := fun z => z = some (bl true, [])) ?_ ?_ (m + 20) 0 (fun _ _ => 0, fun _ _ => .nilp) (by omega) (by omega) (fun k hk => absurd hk (by simp [q_ow]))
  · rintro i ⟨C, K⟩ mm hi hA
    exact a0_step (m + 20) mm n m i hm g sx jx B J hi C K hA
  · rintro ⟨C, K⟩ mm hA
    have hA : AgB (q_ow B m).length C (q_lB (q_ow B m)) := hA
    have hlen := ow_len B m
    generalize q_ow B m = L at *
    obtain ⟨h1, h2, h3⟩ := ok_all n L.length g sx jx K C L hw hL (by omega) hE rfl hA
    have h3 := h3 _ _ rfl rfl (q_uS (q_fd (n + 2) (q_nu (n + 2) (q_rw (q_grG (n + 1) L.length (rwj g sx jx) (rj 1 C K)) (q_grS (n + 1) L.length (rwj g sx jx) (rj 1 C K)))) 77).toNat (q_tx2 (n + 2) (q_rw (q_grG (n + 1) L.length (rwj g sx jx) (rj 1 C K)) (q_grS (n + 1) L.length (rwj g sx jx) (rj 1 C K)))))
    simp only [if_neg hL]
    have hn := hw.n1
    have hc : ¬ (bif ((n + 1 + 1 : Nat) : Int) != W (((n + 1 : Nat) : Int) + 1) then true else ((n + 1 : Nat) : Int) != ((n + 1 : Nat) : Int)) = true := by
      rw [W_nat (by omega)]; simp
    rw [a0_s, if_neg (by simp), if_pos (q_dec_iff.2 h1), if_pos (q_dec_iff.2 h2), if_neg hc]
    exact a1_loop (m + 20) (n + 1) (n + 2) m L.length (by omega) g _ _ sx _ _ jx _ _ _ _ _ (fun i hi => (h3 i hi).1) (fun i hi => (h3 i hi).2.1) (fun i hi => (h3 i hi).2.2.1) (fun i hi => (h3 i hi).2.2.2.1) (fun i hi => (h3 i hi).2.2.2.2) (n + 1) 0 (m + 20) (by omega) (by omega)
theorem gs_eq (n m : Nat) (hm : m ≤ 9223372036854775807) (g : Nat → Nat → Int) (sx : Nat → Nat → ByteArray) (jx J : Nat → Nat → PS) (B : Nat → Nat → Int) :
    callF prog gl DS (m + 2) Oe4 0 5 [.one (.view (n + 1) 12 (rwj g sx jx)), .one (.view m 1 (rj 1 B J))] [] = some (bl true, []) ∨ callF prog gl DG (m + 20) O35 0 5 [.one (.view (n + 1) 12 (rwj g sx jx)), .one (.view m 1 (rj 1 B J))] [] = some (bl true, []) := by
  rw [e_pre, a_pre, if_pos (q_dec_iff.2 ⟨by omega, ⟨g, sx, jx, rfl⟩⟩), if_pos (q_dec_iff.2 ⟨by omega, ⟨g, sx, jx, rfl⟩⟩)]
  have hw := shG_gw (n + 1) (by omega) (q_nu (n + 1) (rwj g sx jx))
  have hN0 : 0 < min (n + 1) 10 := by omega
  generalize min (n + 1) 10 = N at *
  generalize q_shG true (q_nu (n + 1) (rwj g sx jx)) = G at *
  generalize q_shS (q_tx2 (n + 1) (rwj g sx jx)) = s0
  obtain ⟨N, rfl⟩ : ∃ k, N = k + 1 := ⟨N - 1, by omega⟩
  have hn := hw.n1
  have vc := vd_chk (by omega) (gw_vd hw)
  rcases alE_v (n := N + 1) (g := G) (o := (q_ow B m).length) (B := q_lB (q_ow B m)) (fun a b ha hb e => (ow_ok B m).2 a b ha hb e) (q_ow B m).length 0 (by omega) with h | h
  · by_cases hL : q_ow B m = []
    · exact .inl (e0_law N m hm G s0 _ B J (by omega) vc (.inl hL))
    · exact .inr (a0_law N m hm G s0 _ B J hw hL h)
  · exact .inl (e0_law N m hm G s0 _ B J (by omega) vc (.inr h))
theorem gs_zero (m : Nat) (hm : m ≤ 9223372036854775807) (row J : Nat → Nat → PS) (B : Nat → Nat → Int) : callF prog gl DS (m + 2) Oe4 0 5 [.one (.view 0 12 row), .one (.view m 1 (rj 1 B J))] [] = some (bl true, []) := by
  rw [e_pre0]
  exact en_law m hm B J
end Go.Proofs.YtgipgiejdbhpkaaDoor.Sh
