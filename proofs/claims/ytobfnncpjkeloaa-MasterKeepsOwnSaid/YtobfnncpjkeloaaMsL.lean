import Derived.Test.YtobfnncpjkeloaaMsK
namespace Go.Proofs.Ytobfnncpjkeloaa.Sh
open Go Go.RowKit Go.Proofs.Ytobfnncpjkeloaa.Ev Go.Proofs.Try
set_option maxRecDepth 1000000
set_option linter.unusedVariables false
def q_mv (m : Nat) (g2 : Nat → Nat → Int) (sx2 : Nat → Nat → ByteArray) (g : Nat → Nat → Int) (sx : Nat → Nat → ByteArray) (i : Nat) : Bool := bif bif bif decide (q_pl m g2 sx2 (sx i 10) ≥ 0) then g i 1 == 0 else false then g i 5 == 0 else false then g i 6 == 0 else false
/-- The slide's own shapes as they are shown. -/
def q_fr (m : Nat) (g2 : Nat → Nat → Int) (sx2 : Nat → Nat → ByteArray) (g : Nat → Nat → Int) (sx : Nat → Nat → ByteArray) : Nat → Nat → Int := fun i j => bif q_mv m g2 sx2 g sx i then (if 3 ≤ j ∧ j ≤ 7 then g2 (q_pl m g2 sx2 (sx i 10)).toNat j else g i j) else g i j
theorem pl_nu {m : Nat} {g2 : Nat → Nat → Int} {sx2 : Nat → Nat → ByteArray} {nm : ByteArray} : q_pl m (cutG m g2) (cutS m sx2) nm = q_pl m g2 sx2 nm := plF_cg m 0 (fun k hk => ⟨cutG_in (by omega) (by omega), by unfold cutS; rw [if_pos ⟨by omega, .inl rfl⟩]⟩)
theorem mv_pl {m : Nat} {g2 : Nat → Nat → Int} {sx2 : Nat → Nat → ByteArray} {g : Nat → Nat → Int} {sx : Nat → Nat → ByteArray} {i : Nat} (h : q_mv m g2 sx2 g sx i = true) : (0 ≤ q_pl m g2 sx2 (sx i 10) ∧ q_pl m g2 sx2 (sx i 10) < m) ∧ g i 1 = 0 ∧ g i 5 = 0 ∧ g i 6 = 0 := by
  unfold q_mv at h
  have := plF_in (g := g2) (sx := sx2) (nm := sx i 10) m 0
  by_cases a : q_pl m g2 sx2 (sx i 10) ≥ 0
  · refine ⟨⟨a, ?_⟩, ?_⟩
    · unfold q_pl at a ⊢
      omega
    · simpa [a, and_assoc] using h
  · simp [a] at h
theorem fr_yes {m : Nat} {g2 : Nat → Nat → Int} {sx2 : Nat → Nat → ByteArray} {g : Nat → Nat → Int} {sx : Nat → Nat → ByteArray} {i : Nat} (h : q_mv m g2 sx2 g sx i = true) (j : Nat) : q_fr m g2 sx2 g sx i j = if 3 ≤ j ∧ j ≤ 7 then g2 (q_pl m g2 sx2 (sx i 10)).toNat j else g i j := by unfold q_fr; rw [h]; rfl
theorem fr_no {m : Nat} {g2 : Nat → Nat → Int} {sx2 : Nat → Nat → ByteArray} {g : Nat → Nat → Int} {sx : Nat → Nat → ByteArray} {i : Nat} (h : ¬ q_mv m g2 sx2 g sx i = true) (j : Nat) : q_fr m g2 sx2 g sx i j = g i j := by unfold q_fr; rw [Bool.not_eq_true] at h; rw [h]; rfl
theorem cel_yes {m : Nat} {g2 : Nat → Nat → Int} {sx2 : Nat → Nat → ByteArray} {g : Nat → Nat → Int} {sx : Nat → Nat → ByteArray} {i : Nat} (h : q_mv m g2 sx2 g sx i = true) :
    [PS.int .i64 (g i 0), .int .i64 (g i 1), .int .i64 (g i 2), .int .i64 (g2 (q_pl m g2 sx2 (sx i 10)).toNat 3), .int .i64 (g2 (q_pl m g2 sx2 (sx i 10)).toNat 4), .int .i64 (g2 (q_pl m g2 sx2 (sx i 10)).toNat 5), .int .i64 (g2 (q_pl m g2 sx2 (sx i 10)).toNat 6), .int .i64 (g2 (q_pl m g2 sx2 (sx i 10)).toNat 7), .int .i64 (g i 8), .int .i64 (g i 9), .str (sx i 10), .str (sx i 11)] = cel (q_fr m g2 sx2 g sx i) (sx i 10) (sx i 11) := by
  show _ = [PS.int .i64 _, .int .i64 _, .int .i64 _, .int .i64 _, .int .i64 _, .int .i64 _, .int .i64 _, .int .i64 _, .int .i64 _, .int .i64 _, .str _, .str _]
  simp only [fr_yes h]
  rfl
theorem cel_no {m : Nat} {g2 : Nat → Nat → Int} {sx2 : Nat → Nat → ByteArray} {g : Nat → Nat → Int} {sx : Nat → Nat → ByteArray} {i : Nat} (h : ¬ q_mv m g2 sx2 g sx i = true) :
    [PS.int .i64 (g i 0), .int .i64 (g i 1), .int .i64 (g i 2), .int .i64 (g i 3), .int .i64 (g i 4), .int .i64 (g i 5), .int .i64 (g i 6), .int .i64 (g i 7), .int .i64 (g i 8), .int .i64 (g i 9), .str (sx i 10), .str (sx i 11)] = cel (q_fr m g2 sx2 g sx i) (sx i 10) (sx i 11) := by
  show _ = [PS.int .i64 _, .int .i64 _, .int .i64 _, .int .i64 _, .int .i64 _, .int .i64 _, .int .i64 _, .int .i64 _, .int .i64 _, .int .i64 _, .str _, .str _]
  simp only [fr_no h]
/-- What stays while the slide's shapes are shown. -/
def stB (o : PS) (q : Nat) (H : Heap) : Prop := (∃ u, o = .nils ∧ q = 0 ∧ H = [(30, .mp true false (mb u))]) ∨ ∃ u R, o = .os 62 ∧ q_isRw R ∧ H = [(62, .rows 28 12 q R), (30, .mp true false (mb u))]
theorem s3_first (fl mm n m : Nat) (hn : 0 < n) (hm : m ≤ 100000) (g g2 : Nat → Nat → Int) (sx sx2 : Nat → Nat → ByteArray) (jx jx2 : Nat → Nat → PS) (o : PS) (q : Nat) (H : Heap) (h : stB o q H) :
    ∃ R, RwIs 1 (q_fr m g2 sx2 g sx) sx R ∧ rounds (yS fl pS3) (kS fl pS3) (mm + 1) (hS3 n m (rwj g sx jx) (rwj g2 sx2 jx2) o .nils q 0) H = rounds (yS fl pS3) (kS fl pS3) mm (hS3 n m (rwj g sx jx) (rwj g2 sx2 jx2) o (.os 137) q 1) ((137, .rows 28 12 1 R) :: H) := by
  have hd : q_dec (q_isRw (rwj g2 sx2 jx2) ∧ m ≤ 100000) = true := q_dec_iff.2 ⟨⟨_, _, _, rfl⟩, hm⟩
  have hR : RwIs 1 (q_fr m g2 sx2 g sx) sx (appRow 0 (fun _ _ => .nilp) (litRow 12 (cel (q_fr m g2 sx2 g sx 0) (sx 0 10) (sx 0 11)))) := rwIs_first (fun _ _ => rfl) rfl rfl
  refine ⟨_, hR, ?_⟩
  rcases h with ⟨u, rfl, rfl, rfl⟩ | ⟨u, R, rfl, ⟨g', s', j', rfl⟩, rfl⟩
  · rw [s3_nn, if_pos (by simp <;> omega), chk_true (by simp <;> omega), if_pos hd]
    simp only [nu_rwj, tx_rwj, pl_nu, show Int.toNat 0 = 0 from rfl]
    by_cases e : q_mv m g2 sx2 g sx 0 = true
    · have e' := e
      unfold q_mv at e'
      have hp := (mv_pl e).1
      rw [if_pos e', chk_true (by simpa using hp), ← cel_yes e]
      rfl
    · have e' := e
      unfold q_mv at e'
      rw [if_neg e', ← cel_no e]
      rfl
  · rw [s3_on, if_pos (by simp <;> omega), chk_true (by simp <;> omega), if_pos hd]
    simp only [nu_rwj, tx_rwj, pl_nu, show Int.toNat 0 = 0 from rfl]
    by_cases e : q_mv m g2 sx2 g sx 0 = true
    · have e' := e
      unfold q_mv at e'
      have hp := (mv_pl e).1
      rw [if_pos e', chk_true (by simpa using hp), ← cel_yes e]
      rfl
    · have e' := e
      unfold q_mv at e'
      rw [if_neg e', ← cel_no e]
      rfl
theorem s3_next (fl mm n m i : Nat) (hi : i < n) (hn : n ≤ 100000) (hm : m ≤ 100000) (g g2 : Nat → Nat → Int) (sx sx2 : Nat → Nat → ByteArray) (jx jx2 : Nat → Nat → PS) (o : PS) (q : Nat) (H : Heap) (h : stB o q H) (R0 : Nat → Nat → PS) (h0 : RwIs i (q_fr m g2 sx2 g sx) sx R0) :
    ∃ R, RwIs (i + 1) (q_fr m g2 sx2 g sx) sx R ∧ rounds (yS fl pS3) (kS fl pS3) (mm + 1) (hS3 n m (rwj g sx jx) (rwj g2 sx2 jx2) o (.os 137) q (i : Nat)) ((137, .rows 28 12 i R0) :: H) = rounds (yS fl pS3) (kS fl pS3) mm (hS3 n m (rwj g sx jx) (rwj g2 sx2 jx2) o (.os 137) q ((i + 1 : Nat) : Int)) ((137, .rows 28 12 (i + 1) R) :: H) := by
  have hd : q_dec (q_isRw (rwj g2 sx2 jx2) ∧ m ≤ 100000) = true := q_dec_iff.2 ⟨⟨_, _, _, rfl⟩, hm⟩
  have hb : (true && (decide (i + 1 ≤ 9223372036854775807) && decide ((i + 1) * 112 ≤ 140737488355328))) = true := by simp <;> omega
  have hR : RwIs (i + 1) (q_fr m g2 sx2 g sx) sx (appRow i R0 (litRow 12 (cel (q_fr m g2 sx2 g sx i) (sx i 10) (sx i 11)))) := rwIs_app h0 (fun _ _ => rfl) rfl rfl
  refine ⟨_, hR, ?_⟩
  obtain ⟨g3, s3, j3, rfl, _, _⟩ := h0
  have hw : W ((i : Int) + 1) = ((i + 1 : Nat) : Int) := W_nat (by omega)
  rcases h with ⟨u, rfl, rfl, rfl⟩ | ⟨u, R, rfl, ⟨g', s', j', rfl⟩, rfl⟩
  · rw [s3_no, if_pos (by simp <;> omega), chk_true (by simp <;> omega), if_pos hd]
    simp only [nu_rwj, tx_rwj, pl_nu, Int.toNat_natCast, hw]
    by_cases e : q_mv m g2 sx2 g sx i = true
    · have e' := e
      unfold q_mv at e'
      have hp := (mv_pl e).1
      rw [if_pos e', chk_true (by simpa using hp), if_pos hb, ← cel_yes e]
      all_goals rfl
    · have e' := e
      unfold q_mv at e'
      rw [if_neg e', if_pos hb, ← cel_no e]
      all_goals rfl
  · rw [s3_oo, if_pos (by simp <;> omega), chk_true (by simp <;> omega), if_pos hd]
    simp only [nu_rwj, tx_rwj, pl_nu, Int.toNat_natCast, hw]
    by_cases e : q_mv m g2 sx2 g sx i = true
    · have e' := e
      unfold q_mv at e'
      have hp := (mv_pl e).1
      rw [if_pos e', chk_true (by simpa using hp), if_pos hb, ← cel_yes e]
      all_goals rfl
    · have e' := e
      unfold q_mv at e'
      rw [if_neg e', if_pos hb, ← cel_no e]
      all_goals rfl
/-- What Show answers: views; of the back rows nothing is told. -/
def ShA (n : Nat) (G : Nat → Nat → Int) (S : Nat → Nat → ByteArray) (x : Option (PV × Heap)) : Prop := ∃ (v : PV) (H : Heap) (p : Nat × (Nat → Nat → PS)), x = some (v, H) ∧ agV (frzV 0 none H v) (.tup [.one (.view p.1 12 p.2), .one (.view n 12 (q_rw G S)), i64 0]) ∧ okV (fun _ => false) (frzV 0 none H v) = true
theorem s3_end (fl mm n m : Nat) (hn : n ≤ 100000) (g g2 : Nat → Nat → Int) (sx sx2 : Nat → Nat → ByteArray) (jx jx2 : Nat → Nat → PS) (o : PS) (q : Nat) (H : Heap) (h : stB o q H) (R0 : Nat → Nat → PS) (G : Nat → Nat → Int) (h0 : RwIs n G sx R0) :
    ShA n G sx (rounds (yS fl pS3) (kS fl pS3) (mm + 1) (hS3 n m (rwj g sx jx) (rwj g2 sx2 jx2) o (.os 137) q (n : Nat)) ((137, .rows 28 12 n R0) :: H)) := by
  have ha := rwIs_ag h0
  obtain ⟨g3, s3, j3, rfl, _, _⟩ := h0
  rcases h with ⟨u, rfl, rfl, rfl⟩ | ⟨u, R, rfl, ⟨g', s', j', rfl⟩, rfl⟩
  · rw [s3_no, if_neg (by simp <;> omega)]
    exact ⟨_, _, (0, fun _ _ => .nilp), rfl, .cons (.none 12 _) (.cons (.view ha) (.cons (.refl _) .nil)), rfl⟩
  · rw [s3_oo, if_neg (by simp <;> omega)]
    exact ⟨_, _, (q, rwj g' s' j'), rfl, .cons (.refl _) (.cons (.view ha) (.cons (.refl _) .nil)), rfl⟩
theorem s3_none (fl mm m : Nat) (g g2 : Nat → Nat → Int) (sx sx2 : Nat → Nat → ByteArray) (jx jx2 : Nat → Nat → PS) (o : PS) (q : Nat) (H : Heap) (h : stB o q H) (G : Nat → Nat → Int) :
    ShA 0 G sx (rounds (yS fl pS3) (kS fl pS3) (mm + 1) (hS3 0 m (rwj g sx jx) (rwj g2 sx2 jx2) o .nils q 0) H) := by
  rcases h with ⟨u, rfl, rfl, rfl⟩ | ⟨u, R, rfl, ⟨g', s', j', rfl⟩, rfl⟩
  · rw [s3_nn, if_neg (by simp)]
    exact ⟨_, _, (0, fun _ _ => .nilp), rfl, .cons (.none 12 _) (.cons (.none 12 _) (.cons (.refl _) .nil)), rfl⟩
  · rw [s3_on, if_neg (by simp)]
    exact ⟨_, _, (q, rwj g' s' j'), rfl, .cons (.refl _) (.cons (.none 12 _) (.cons (.refl _) .nil)), rfl⟩
theorem s3_loop (fl n m : Nat) (hn : n ≤ 100000) (hm : m ≤ 100000) (g g2 : Nat → Nat → Int) (sx sx2 : Nat → Nat → ByteArray) (jx jx2 : Nat → Nat → PS) (o : PS) (q : Nat) (H : Heap) (h : stB o q H) : ∀ (r i m1 : Nat) (R0 : Nat → Nat → PS), i + r = n → r < m1 → RwIs i (q_fr m g2 sx2 g sx) sx R0 →
    ShA n (q_fr m g2 sx2 g sx) sx (rounds (yS fl pS3) (kS fl pS3) m1 (hS3 n m (rwj g sx jx) (rwj g2 sx2 jx2) o (.os 137) q (i : Nat)) ((137, .rows 28 12 i R0) :: H)) := by
  intro r
  induction r with
  | zero =>
    intro i m1 R0 hi h1 hR
    obtain ⟨m1, rfl⟩ : ∃ m', m1 = m' + 1 := ⟨m1 - 1, by omega⟩
    obtain rfl : i = n := by omega
    exact s3_end fl m1 i m hn g g2 sx sx2 jx jx2 o q H h R0 _ hR
  | succ r ih =>
    intro i m1 R0 hi h1 hR
    obtain ⟨m1, rfl⟩ : ∃ m', m1 = m' + 1 := ⟨m1 - 1, by omega⟩
    obtain ⟨R, hR', e⟩ := s3_next fl m1 n m i (by omega) hn hm g g2 sx sx2 jx jx2 o q H h R0 hR
    rw [e]
    exact ih (i + 1) m1 R (by omega) (by omega) hR'
theorem s3_all (fl n m : Nat) (hfl : n + 1 < fl) (hn : n ≤ 100000) (hm : m ≤ 100000) (g g2 : Nat → Nat → Int) (sx sx2 : Nat → Nat → ByteArray) (jx jx2 : Nat → Nat → PS) (o : PS) (q : Nat) (H : Heap) (h : stB o q H) :
    ShA n (q_fr m g2 sx2 g sx) sx (rounds (yS fl pS3) (kS fl pS3) fl (hS3 n m (rwj g sx jx) (rwj g2 sx2 jx2) o .nils q 0) H) := by
  obtain ⟨m1, rfl⟩ : ∃ m', fl = m' + 1 := ⟨fl - 1, by omega⟩
  by_cases h0 : n = 0
  · subst h0
    exact s3_none _ _ _ _ _ _ _ _ _ o q H h _
  · obtain ⟨R, hR, e⟩ := s3_first (m1 + 1) m1 n m (by omega) hm g g2 sx sx2 jx jx2 o q H h
    rw [e]
    exact s3_loop _ _ _ hn hm _ _ _ _ _ _ o q H h (n - 1) 1 m1 R (by omega) (by omega) hR
theorem show_eq (n m : Nat) (hn : n ≤ 100000) (hm : m ≤ 100000) (g g2 : Nat → Nat → Int) (sx sx2 : Nat → Nat → ByteArray) (jx jx2 : Nat → Nat → PS) (hc : q_chk n (q_nu n (rwj g sx jx)) = 0) (hc2 : q_chk m (q_nu m (rwj g2 sx2 jx2)) = 0) :
    ShA n (q_fr m g2 sx2 g sx) sx (callF prog gl DS (n + m + 2) O17 0 10 [sv n (rwj g sx jx), sv m (rwj g2 sx2 jx2)] []) := by
  rw [sh_pre, if_pos (q_dec_iff.2 ⟨⟨_, _, _, rfl⟩, hn⟩), if_neg (by rw [hc]; simp), if_pos (q_dec_iff.2 ⟨⟨_, _, _, rfl⟩, hm⟩), if_neg (by rw [hc2]; simp), hc, hc2]
  obtain ⟨o, q, H, h, e⟩ := s1_loop (n + m + 2) n m (by omega) (rwj g sx jx) g2 sx2 jx2 m 0 (n + m + 2) .nils 0 _ (by omega) (by omega) (.inl ⟨upb (fun _ => false) (.int .i64 0) false, rfl, rfl, rfl⟩)
  refine Eq.mpr (congrArg (ShA n (q_fr m g2 sx2 g sx) sx) e) ?_
  rcases h with ⟨u, rfl, rfl, rfl⟩ | ⟨u, R, rfl, h0, hq, hR, rfl⟩
  · have e2 := s2_n (n + m + 2) (n + m + 1) n m (rwj g sx jx) (rwj g2 sx2 jx2) u
    refine Eq.mpr (congrArg (ShA n (q_fr m g2 sx2 g sx) sx) e2) ?_
    exact s3_all (n + m + 2) n m (by omega) hn hm g g2 sx sx2 jx jx2 .nils 0 _ (.inl ⟨u, rfl, rfl, rfl⟩)
  · obtain ⟨R', hR', e2⟩ := s2_loop (n + m + 2) n m q (by omega) (rwj g sx jx) (rwj g2 sx2 jx2) u q 0 (n + m + 2) R (by omega) (by omega) hR
    refine Eq.mpr (congrArg (ShA n (q_fr m g2 sx2 g sx) sx) e2) ?_
    exact s3_all (n + m + 2) n m (by omega) hn hm g g2 sx sx2 jx jx2 (.os 62) q _ (.inr ⟨u, R', rfl, hR', rfl⟩)
/-- The back rows that Show gives (which ones is not told). -/
noncomputable def q_bk (n m : Nat) (row row2 : Nat → Nat → PS) (G : Nat → Nat → Int) (S : Nat → Nat → ByteArray) : Nat × (Nat → Nat → PS) :=
  @Classical.epsilon (Nat × (Nat → Nat → PS)) ⟨(0, fun _ _ => .nilp)⟩ fun p => ∃ (v : PV) (H : Heap), callF prog gl DS (n + m + 2) O17 0 10 [sv n row, sv m row2] [] = some (v, H) ∧ agV (frzV 0 none H v) (.tup [.one (.view p.1 12 p.2), .one (.view n 12 (q_rw G S)), i64 0]) ∧ okV (fun _ => false) (frzV 0 none H v) = true
noncomputable def q_frN (n m : Nat) (row row2 : Nat → Nat → PS) : Nat → Nat → Int := q_fr m (q_nu m row2) (q_tx2 m row2) (q_nu n row) (q_tx2 n row)
noncomputable def O18 : Orac := addM 10 (fun nb vs H => match nb, H with
  | 0, [] => ((fun vs => match vs with
    | [.one (.view n 12 row), .one (.view m 12 row2)] => some (q_dec ((q_isRw row ∧ n ≤ 100000 ∧ q_chk n (q_nu n row) = 0) ∧ q_isRw row2 ∧ m ≤ 100000 ∧ q_chk m (q_nu m row2) = 0), .tup [.one (.view (q_bk n m row row2 (q_frN n m row row2) (q_tx2 n row)).1 12 (q_bk n m row row2 (q_frN n m row row2) (q_tx2 n row)).2), .one (.view n 12 (q_rw (q_frN n m row row2) (q_tx2 n row))), i64 0])
    | _ => none : List PV → Option (Bool × PV)) vs).map (fun r => (r.1, r.2, []))
  | _, _ => none) O17
theorem agS_trans {a b c : PS} (h : agS a b) (h2 : agS b c) : agS a c := by
  induction h generalizing c with
  | refl => exact h2
  | view ha ih =>
    cases h2 with
    | refl => exact .view ha
    | view hb => exact .view fun i j hi hj => ih i j hi hj (hb i j hi hj)
  | none e row =>
    cases h2 with
    | refl => exact .none _ _
    | view hb => exact .none _ _
theorem fr_cut {n m : Nat} {g2 : Nat → Nat → Int} {sx2 : Nat → Nat → ByteArray} {g : Nat → Nat → Int} {sx : Nat → Nat → ByteArray} {i j : Nat} (hi : i < n) (hj : j < 10) : q_fr m (cutG m g2) (cutS m sx2) (cutG n g) (cutS n sx) i j = q_fr m g2 sx2 g sx i j := by
  have hs : cutS n sx i 10 = sx i 10 := by unfold cutS; rw [if_pos ⟨hi, .inl rfl⟩]
  have e : q_mv m (cutG m g2) (cutS m sx2) (cutG n g) (cutS n sx) i = q_mv m g2 sx2 g sx i := by
    unfold q_mv
    rw [hs, pl_nu, cutG_in hi (by omega), cutG_in hi (by omega), cutG_in hi (by omega)]
  by_cases h : q_mv m g2 sx2 g sx i = true
  · rw [fr_yes h, fr_yes (e.trans h), hs, pl_nu]
    have := (mv_pl h).1
    by_cases q : 3 ≤ j ∧ j ≤ 7
    · rw [if_pos q, if_pos q, cutG_in (by omega) (by omega)]
    · rw [if_neg q, if_neg q, cutG_in hi hj]
  · rw [fr_no h, fr_no (by rw [e]; exact h), cutG_in hi hj]
theorem sO18 : Sound prog gl O18 := add_fz (D := DS) sO17 sO17 mo (fun vs v h => by
  split at h
  · rename_i n row m row2
    obtain ⟨h1, h2⟩ := Prod.mk.inj (Option.some.inj h)
    subst h2
    obtain ⟨⟨⟨g, sx, jx, rfl⟩, hn, hc⟩, ⟨g2, sx2, jx2, rfl⟩, hm, hc2⟩ := q_dec_iff.1 h1
    obtain ⟨v1, H1, p, e1, e2, e3⟩ := show_eq n m hn hm g g2 sx sx2 jx jx2 hc hc2
    have key : ∃ p : Nat × (Nat → Nat → PS), ∃ (v : PV) (H : Heap), callF prog gl DS (n + m + 2) O17 0 10 [sv n (rwj g sx jx), sv m (rwj g2 sx2 jx2)] [] = some (v, H) ∧ agV (frzV 0 none H v) (.tup [.one (.view p.1 12 p.2), .one (.view n 12 (q_rw (q_frN n m (rwj g sx jx) (rwj g2 sx2 jx2)) (q_tx2 n (rwj g sx jx)))), i64 0]) ∧ okV (fun _ => false) (frzV 0 none H v) = true := by
      refine ⟨p, v1, H1, e1, ?_, e3⟩
      have e4 : ∀ i j, i < n → j < 12 → agS (q_rw (q_fr m g2 sx2 g sx) sx i j) (q_rw (q_frN n m (rwj g sx jx) (rwj g2 sx2 jx2)) (q_tx2 n (rwj g sx jx)) i j) := by
        unfold q_frN
        rw [nu_rwj, nu_rwj, tx_rwj, tx_rwj]
        exact rw_ag (fun i j hi hj => (fr_cut hi hj).symm) (fun i j hi hj => by unfold cutS; rw [if_pos ⟨hi, hj⟩])
      generalize frzV 0 none H1 v1 = V at e2
      cases V with
      | tup l =>
        have e2' : All2 agV1 l _ := e2
        cases e2' with
        | cons a b =>
          cases b with
          | cons b c =>
            refine .cons a (.cons ?_ c)
            rename_i x1 x2 l1
            cases x2 with
            | one s => exact agS_trans b (.view e4)
            | _ => exact absurd b (by simp [agV1])
      | _ => exact absurd e2 (by simp [agV])
    obtain ⟨v2, H2, e4, e5, e6⟩ := @Classical.epsilon_spec _ (fun p : Nat × (Nat → Nat → PS) => ∃ (v : PV) (H : Heap), callF prog gl DS (n + m + 2) O17 0 10 [sv n (rwj g sx jx), sv m (rwj g2 sx2 jx2)] [] = some (v, H) ∧ agV (frzV 0 none H v) (.tup [.one (.view p.1 12 p.2), .one (.view n 12 (q_rw (q_frN n m (rwj g sx jx) (rwj g2 sx2 jx2)) (q_tx2 n (rwj g sx jx)))), i64 0]) ∧ okV (fun _ => false) (frzV 0 none H v) = true) key
    exact ⟨n + m + 2, v2, H2, e4, e5, e6⟩
  · cases h)
end Go.Proofs.Ytobfnncpjkeloaa.Sh
