/- What ClockAddsUp computes is true, at every list of events: the presentation's time, cut at two times, grows by no more than lies between; the slides' times and the time ahead of the first slide add up. -/
import Derived.Test.YtohaoaiffneamaaTypClockAddsUp
namespace Go.Proofs.Ytohaoaiffneamaa.Pure
open Go.RowKit Go.Proofs.Ytohaoaiffneamaa.QClockAddsUp Go.Proofs.YtohaoaiffneamaaW.PrintWords Go.Proofs.YtohaoaiffneamaaW.PrintLast Go.Proofs.YtohaoaiffneamaaW.PrintMore
set_option linter.unusedVariables false
set_option linter.unusedSimpArgs false

/-- From some number of rounds on the answer is there, and it is as told. -/
def EvP {α : Type} (g : Nat → Option α) (P : α → Prop) : Prop := ∃ r, Ev g r ∧ P r
theorem EvP.ret {α : Type} {r : α} {P : α → Prop} (h : P r) : EvP (fun _ => some r) P := ⟨r, Ev.now r, h⟩
theorem EvP.cst {α : Type} {g : Option α} {r : α} {P : α → Prop} (e : g = some r) (h : P r) : EvP (fun _ => g) P := ⟨r, ⟨0, fun _ _ => e⟩, h⟩
theorem EvP.bind {α β : Type} {g : Nat → Option α} {f : Nat → α → Option β} {P : α → Prop} {Q : β → Prop} (h : EvP g P) (k : ∀ a, P a → EvP (fun n => f n a) Q) : EvP (fun n => (g n).bind (f n)) Q := by
  obtain ⟨a, ha, hp⟩ := h
  obtain ⟨r, hr, hq⟩ := k a hp
  exact ⟨r, Ev.bind ha hr, hq⟩
theorem EvP.ite {α : Type} {c : Prop} [Decidable c] {a b : Nat → Option α} {Q : α → Prop} (h : c → EvP a Q) (k : ¬ c → EvP b Q) : EvP (fun n => if c then a n else b n) Q := by
  by_cases hc : c
  · simp only [if_pos hc]; exact h hc
  · simp only [if_neg hc]; exact k hc
theorem EvP.pos {α : Type} {c : Prop} [Decidable c] {a b : Nat → Option α} {Q : α → Prop} (hc : c) (h : EvP a Q) : EvP (fun n => if c then a n else b n) Q := by
  simp only [if_pos hc]; exact h
theorem EvP.neg {α : Type} {c : Prop} [Decidable c] {a b : Nat → Option α} {Q : α → Prop} (hc : ¬ c) (h : EvP b Q) : EvP (fun n => if c then a n else b n) Q := by
  simp only [if_neg hc]; exact h
theorem EvP.step {α : Type} {g f : Nat → Option α} {Q : α → Prop} (h : ∀ k, g (k + 1) = f k) (k : EvP f Q) : EvP g Q := by
  obtain ⟨r, hr, hq⟩ := k
  exact ⟨r, Ev.step h hr, hq⟩
theorem EvP.congr {α : Type} {g f : Nat → Option α} {Q : α → Prop} (h : ∀ k, g k = f k) (k : EvP f Q) : EvP g Q := by
  obtain ⟨r, hr, hq⟩ := k
  exact ⟨r, Ev.congr h hr, hq⟩
theorem EvP.mono {α : Type} {g : Nat → Option α} {P Q : α → Prop} (h : EvP g P) (k : ∀ r, P r → Q r) : EvP g Q := by
  obtain ⟨r, hr, hp⟩ := h
  exact ⟨r, hr, k r hp⟩
theorem EvP.rounds {α : Type} {g : Nat → Option α} {r : α} (h : EvP g (· = r)) : ∃ k, g k = some r := by
  obtain ⟨q, hq, rfl⟩ := h
  exact hq.rounds
theorem EvP.ev {α : Type} {g : Nat → Option α} {r : α} (h : Ev g r) : EvP g (· = r) := ⟨r, h, rfl⟩
/-- What has no rounds, told as what has some. -/
theorem EvP.plain {α : Type} {g : Option α} {P : α → Prop} (h : EvP (fun _ => g) P) : ∃ r, g = some r ∧ P r := by
  obtain ⟨r, ⟨K, hK⟩, hp⟩ := h
  exact ⟨r, hK K (Nat.le_refl _), hp⟩
theorem wz {n : Int} (h : -9223372036854775808 ≤ n) (k : n ≤ 9223372036854775807) : wrap64 n = n := by
  unfold wrap64; omega
theorem bounds64 {n : Int} (h : (Lit.int .i64 n).wf = true) : -9223372036854775808 ≤ n ∧ n ≤ 9223372036854775807 := by
  simp [Lit.wf, IntKind.min, IntKind.max, IntKind.signed, IntKind.bits] at h
  omega

theorem wc {i n : Nat} (h : i < n) (hn : n ≤ 1000000) : wrap64 ((i : Int) + 1) = ((i + 1 : Nat) : Int) := by
  rw [wz (by omega) (by omega)]; omega
theorem within_ok {x lo hi : Int} (hx : -9223372036854775808 ≤ x ∧ x ≤ 9223372036854775807) (h : lo ≤ hi) (hlo : -4611686018427387904 ≤ lo) (hhi : hi ≤ 4611686018427387904) (hd : hi - lo < 2305843009213693952) :
    ∃ r, ck_within.f x lo hi = some r ∧ lo ≤ r ∧ r ≤ hi := by
  unfold ck_within.f
  rw [wz (n := hi - lo) (by omega) (by omega), wz (n := hi - lo + 1) (by omega) (by omega)]
  obtain ⟨n, hn⟩ : ∃ n, n = hi - lo + 1 := ⟨_, rfl⟩
  rw [← hn, if_neg (by omega)]
  have t1 : -n < Int.tmod x n ∧ Int.tmod x n < n := by
    constructor
    · by_cases h0 : 0 ≤ x
      · have := Int.tmod_nonneg n h0; omega
      · obtain ⟨m, rfl⟩ : ∃ m, x = -m := ⟨-x, by omega⟩
        rw [Int.neg_tmod]
        have := Int.tmod_lt_of_pos m (show 0 < n by omega)
        omega
    · exact Int.tmod_lt_of_pos x (by omega)
  rw [wz (n := Int.tmod x n + n) (by omega) (by omega)]
  have t2 := Int.tmod_nonneg n (show 0 ≤ Int.tmod x n + n by omega)
  have t3 := Int.tmod_lt_of_pos (Int.tmod x n + n) (show 0 < n by omega)
  refine ⟨_, rfl, ?_, ?_⟩
  · rw [wz (by omega) (by omega)]; omega
  · rw [wz (by omega) (by omega)]; omega
theorem rd70 {pre post : List S70} {x : S70} : rd_T70 (pre ++ x :: post) (pre.length : Int) = x := by
  unfold rd_T70
  rw [Int.toNat_natCast, List.getD_eq_getElem?_getD]
  simp
theorem rd72 {pre post : List S72} {x : S72} : rd_T72 (pre ++ x :: post) (pre.length : Int) = x := by
  unfold rd_T72
  rw [Int.toNat_natCast, List.getD_eq_getElem?_getD]
  simp

/-! ### What is counted -/
def S : List S72 → Int
  | [] => 0
  | x :: l => x.f1 + S l
def cnt (q : Int) : List S72 → Int
  | [] => 0
  | x :: l => (if x.f0 = q then 1 else 0) + cnt q l
theorem cnt_nn (q : Int) : ∀ l : List S72, 0 ≤ cnt q l
  | [] => Int.le_refl _
  | x :: l => by have := cnt_nn q l; unfold cnt; split <;> omega
def NN (l : List S72) : Prop := ∀ x, x ∈ l → 0 ≤ x.f1
theorem S_nn : ∀ {l : List S72}, NN l → 0 ≤ S l
  | [], _ => Int.le_refl _
  | x :: l, h => by have := S_nn (l := l) (fun y hy => h y (by simp [hy])); have := h x (by simp); unfold S; omega
theorem pass_S {s t : Int} (ht : 0 ≤ t) : ∀ {l : List S72}, NN l → S l + t ≤ 1000000000000 → S (l.map (pass1 s t)) = S l + cnt s l * t ∧ NN (l.map (pass1 s t))
  | [], _, _ => by simp [S, cnt, NN]
  | x :: l, h, hb => by
    have h0 := h x (by simp)
    have hl : NN l := fun y hy => h y (by simp [hy])
    have hS := S_nn hl
    simp only [S] at hb
    obtain ⟨i1, i2⟩ := pass_S (s := s) ht hl (by omega)
    have e : (pass1 s t x).f1 = x.f1 + (if x.f0 = s then t else 0) := by
      unfold pass1
      by_cases c : x.f0 = s
      · rw [if_pos c, if_pos c]; exact wz (by omega) (by omega)
      · rw [if_neg c, if_neg c]; omega
    constructor
    · simp only [List.map_cons, S, cnt]
      rw [i1, e, Int.add_mul]
      split <;> omega
    · intro y hy
      simp only [List.map_cons, List.mem_cons] at hy
      rcases hy with rfl | hy
      · rw [e]; split <;> omega
      · exact i2 y hy
theorem pass_cnt (q s t : Int) : ∀ l : List S72, cnt q (l.map (pass1 s t)) = cnt q l
  | [] => rfl
  | x :: l => by
    have e : (pass1 s t x).f0 = x.f0 := by unfold pass1; split <;> rfl
    simp only [List.map_cons, cnt]
    rw [e, pass_cnt q s t l]
theorem show_S (a : Bool) (s : Int) : ∀ l : List S72, S (show1 a s l) = S l
  | [] => by simp [show1, S]
  | x :: l => by
    unfold show1
    by_cases c : x.f0 = s
    · rw [if_pos c]; cases a <;> simp [S]
    · rw [if_neg c]; simp only [S]; rw [show_S a s l]
theorem show_NN (a : Bool) (s : Int) : ∀ {l : List S72}, NN l → NN (show1 a s l)
  | [], _ => by intro y hy; simp [show1] at hy; subst hy; exact Int.le_refl _
  | x :: l, h => by
    have h0 := h x (by simp)
    have hl : NN l := fun y hy => h y (by simp [hy])
    unfold show1
    by_cases c : x.f0 = s
    · rw [if_pos c]
      intro y hy
      simp only [List.mem_cons] at hy
      rcases hy with rfl | hy
      · cases a <;> exact h0
      · exact hl y hy
    · rw [if_neg c]
      intro y hy
      simp only [List.mem_cons] at hy
      rcases hy with rfl | hy
      · exact h0
      · exact show_NN a s hl y hy
theorem show_cnt (a : Bool) (s q : Int) : ∀ l : List S72, cnt q (show1 a s l) = if q = s ∧ cnt s l = 0 then 1 else cnt q l
  | [] => by
    simp only [show1, cnt]
    by_cases c : q = s
    · subst c; simp
    · rw [if_neg (fun h => c h.symm), if_neg (fun h => c h.1)]; rfl
  | x :: l => by
    unfold show1
    have hn := cnt_nn s l
    by_cases c : x.f0 = s
    · rw [if_pos c]
      have hc : cnt s (x :: l) ≠ 0 := by simp only [cnt]; rw [if_pos c]; omega
      have hno : ¬ (q = s ∧ cnt s (x :: l) = 0) := fun h => hc h.2
      rw [if_neg hno]
      cases a <;> simp [cnt]
    · rw [if_neg c]
      have hc : cnt s (x :: l) = cnt s l := by simp only [cnt]; rw [if_neg c]; omega
      rw [hc]
      simp only [cnt]
      rw [show_cnt a s q l]
      by_cases e : q = s ∧ cnt s l = 0
      · rw [if_pos e, if_pos e, if_neg (by rw [e.1]; exact c)]; omega
      · rw [if_neg e, if_neg e]
theorem show_len (a : Bool) (s : Int) : ∀ l : List S72, l.length ≤ (show1 a s l).length
  | [] => by simp
  | x :: l => by
    unfold show1
    by_cases c : x.f0 = s
    · rw [if_pos c]; simp
    · rw [if_neg c]; have := show_len a s l; simp; omega
theorem show_ne (a : Bool) (s : Int) : ∀ l : List S72, show1 a s l ≠ []
  | [] => by simp [show1]
  | x :: l => by unfold show1; split <;> simp

/-! ### One event -/
abbrev C := Bool × Int × Int × List S72 × Int
structure G (a : Int) (c : C) : Prop where
  l0 : 0 ≤ c.2.2.2.2
  l1 : c.2.2.2.2 ≤ a
  a1 : a ≤ 100000
  t0 : 0 ≤ c.2.1
  t1 : c.2.1 ≤ c.2.2.2.2
  nn : NN c.2.2.2.1
  s1 : S c.2.2.2.1 ≤ c.2.1
  c1 : ∀ q, cnt q c.2.2.2.1 ≤ 1
  c2 : c.2.2.2.1 = [] ∨ cnt c.2.2.1 c.2.2.2.1 = 1
theorem mn_le {x a : Int} : mn x a ≤ a ∧ mn x a ≤ x := by unfold mn; split <;> omega
theorem mn_ge {x a l : Int} (h : l ≤ x) (h2 : l ≤ a) : l ≤ mn x a := by unfold mn; split <;> omega
structure Stp (a : Int) (x : S70) (c c' : C) : Prop where
  tot : c'.2.1 = if c.1 = true then c.2.1 + (mn x.f1 a - c.2.2.2.2) else c.2.1
  last : c'.2.2.2.2 = mn x.f1 a
  len : c.2.2.2.1.length ≤ c'.2.2.2.1.length
  len2 : x.f1 > a → c'.2.2.2.1.length = c.2.2.2.1.length
  nil : ¬ (x.f0 = 2 ∧ x.f1 ≤ a) → c.2.2.2.1 = [] → c'.2.2.2.1 = []
  two : x.f0 = 2 → x.f1 ≤ a → c'.2.2.2.1 ≠ []
  good : G a c'
  diff : c.2.2.2.1 ≠ [] → c'.2.1 - S c'.2.2.2.1 = c.2.1 - S c.2.2.2.1 ∧ c'.2.2.2.1 ≠ []
  first : c.2.2.2.1 = [] → S c'.2.2.2.1 = 0
  len3 : c'.2.2.2.1.length ≤ c.2.2.2.1.length + 1
theorem map_nil' {f : S72 → S72} {l : List S72} (h : l.map f = []) : l = [] := by simpa using h
theorem step_ok {a : Int} {x : S70} {c : C} (g : G a c) (hx : c.2.2.2.2 ≤ x.f1) : Stp a x c (clock_step a x c) := by
  obtain ⟨run, total, slide, sl, last⟩ := c
  have l0 := g.l0; have l1 := g.l1; have a1 := g.a1; have t0 := g.t0; have t1 := g.t1; have nn := g.nn; have s1 := g.s1; have c1 := g.c1; have c2 := g.c2
  simp only at l0 l1 a1 t0 t1 nn s1 c1 c2 hx
  obtain ⟨m, hm⟩ : ∃ m, m = mn x.f1 a := ⟨_, rfl⟩
  have hm1 : m ≤ a := by rw [hm]; exact mn_le.1
  have hm2 : last ≤ m := by rw [hm]; exact mn_ge hx l1
  have hS := S_nn nn
  have e1 : wrap64 (m - last) = m - last := wz (by omega) (by omega)
  have e2 : wrap64 (total + (m - last)) = total + (m - last) := wz (by omega) (by omega)
  obtain ⟨p1, p2⟩ := pass_S (s := slide) (t := m - last) (by omega) nn (by omega)
  -- what has passed
  obtain ⟨tot, htot⟩ : ∃ tot, tot = if run = true then wrap64 (total + wrap64 (m - last)) else total := ⟨_, rfl⟩
  obtain ⟨sl1, hsl1⟩ : ∃ sl1, sl1 = if run = true then sl.map (pass1 slide (wrap64 (m - last))) else sl := ⟨_, rfl⟩
  have q1 : tot = if run = true then total + (m - last) else total := by rw [htot, e1, e2]
  have q2 : total ≤ tot ∧ tot ≤ m := by rw [q1]; split <;> omega
  have q3 : NN sl1 := by rw [hsl1, e1]; split <;> assumption
  have q4 : ∀ q, cnt q sl1 = cnt q sl := fun q => by rw [hsl1]; split <;> first | exact pass_cnt _ _ _ _ | rfl
  have q5 : sl1.length = sl.length := by rw [hsl1]; split <;> simp
  have q6 : sl1 = [] ↔ sl = [] := by rw [← List.length_eq_zero_iff, ← List.length_eq_zero_iff, q5]
  have q7 : sl ≠ [] → tot - S sl1 = total - S sl := fun hne => by
    have hc : cnt slide sl = 1 := c2.resolve_left hne
    rw [q1, hsl1, e1]
    split
    · rw [p1, hc]; omega
    · rfl
  have q8 : S sl1 ≤ tot := by
    by_cases hne : sl = []
    · have : sl1 = [] := q6.2 hne
      rw [this]; simp only [S]; omega
    · have := q7 hne; omega
  have q9 : sl = [] → S sl1 = 0 := fun h => by rw [q6.2 h]; rfl
  have gg : ∀ run' : Bool, G a (run', tot, slide, sl1, m) := fun run' => ⟨by show 0 ≤ m; omega, hm1, a1, by show 0 ≤ tot; omega, q2.2, q3, q8, fun q => by show cnt q sl1 ≤ 1; rw [q4]; exact c1 q, by
    show sl1 = [] ∨ cnt slide sl1 = 1
    rw [q4, q6]; exact c2⟩
  have base : ∀ run' : Bool, ¬ (x.f0 = 2 ∧ x.f1 ≤ a) → Stp a x (run, total, slide, sl, last) (run', tot, slide, sl1, m) := fun run' hno =>
    ⟨by show tot = _; rw [q1, hm], hm, by show sl.length ≤ sl1.length; omega, fun _ => q5, fun _ h => q6.2 h, fun h k => absurd ⟨h, k⟩ hno, gg run', fun h => ⟨q7 h, fun h2 => h (q6.1 h2)⟩, q9, by show sl1.length ≤ sl.length + 1; omega⟩
  have hstep : clock_step a x (run, total, slide, sl, last) = (if x.f1 > a then (run, tot, slide, sl1, m) else if x.f0 = 0 then (true, tot, slide, sl1, m) else if x.f0 = 1 ∨ x.f0 = 3 then (false, tot, slide, sl1, m) else if x.f0 = 2 then (run, tot, x.f2, show1 (slide == x.f2) x.f2 sl1, m) else (run, tot, slide, sl1, m)) := by
    rw [htot, hsl1, hm]; rfl
  rw [hstep]
  by_cases h1 : x.f1 > a
  · rw [if_pos h1]; exact base run (fun h => by omega)
  · rw [if_neg h1]
    by_cases h2 : x.f0 = 0
    · rw [if_pos h2]; exact base true (fun h => by omega)
    · rw [if_neg h2]
      by_cases h3 : x.f0 = 1 ∨ x.f0 = 3
      · rw [if_pos h3]; exact base false (fun h => by omega)
      · rw [if_neg h3]
        by_cases h4 : x.f0 = 2
        · rw [if_pos h4]
          have r1 := show_S (slide == x.f2) x.f2 sl1
          refine ⟨by show tot = _; rw [q1, hm], hm, ?_, fun h => absurd h h1, fun h _ => absurd ⟨h4, by omega⟩ h, fun _ _ => show_ne _ _ _, ?_, ?_, ?_, by show (show1 _ _ sl1).length ≤ sl.length + 1; have := show1_len (slide == x.f2) x.f2 sl1; omega⟩
          · show sl.length ≤ (show1 _ _ sl1).length
            have := show_len (slide == x.f2) x.f2 sl1; omega
          · refine ⟨by show 0 ≤ m; omega, hm1, a1, by show 0 ≤ tot; omega, q2.2, show_NN _ _ q3, by show S (show1 _ _ sl1) ≤ tot; rw [r1]; exact q8, fun q => ?_, Or.inr ?_⟩
            · show cnt q (show1 _ _ sl1) ≤ 1
              rw [show_cnt]
              have := c1 q; have := q4 q
              split <;> omega
            · show cnt x.f2 (show1 _ _ sl1) = 1
              rw [show_cnt]
              have h5 := c1 x.f2; have h6 := q4 x.f2; have h7 := cnt_nn x.f2 sl1
              by_cases hz : cnt x.f2 sl1 = 0
              · rw [if_pos ⟨rfl, hz⟩]
              · rw [if_neg (fun h => hz h.2)]; omega
          · intro hne
            refine ⟨?_, show_ne _ _ _⟩
            show tot - S (show1 _ _ sl1) = total - S sl
            rw [r1]; exact q7 hne
          · intro h
            show S (show1 _ _ sl1) = 0
            rw [r1]; exact q9 h
        · rw [if_neg h4]; exact base run (fun h => h4 h.1)

/-! ### All events -/
/-- Times never run back, from lo to hi. -/
def Srt : Int → List S70 → Int → Prop
  | lo, [], hi => lo ≤ hi
  | lo, x :: l, hi => lo ≤ x.f1 ∧ Srt x.f1 l hi
theorem Srt.le : ∀ {l : List S70} {lo hi : Int}, Srt lo l hi → lo ≤ hi
  | [], _, _, h => h
  | x :: l, lo, hi, h => Int.le_trans h.1 (Srt.le h.2)
theorem Srt.mem : ∀ {l : List S70} {lo hi : Int}, Srt lo l hi → ∀ x, x ∈ l → lo ≤ x.f1 ∧ x.f1 ≤ hi
  | [], _, _, _, x, hx => by simp at hx
  | y :: l, lo, hi, h, x, hx => by
    simp only [List.mem_cons] at hx
    rcases hx with rfl | hx
    · exact ⟨h.1, h.2.le⟩
    · have := h.2.mem x hx
      exact ⟨Int.le_trans h.1 this.1, this.2⟩
theorem run_app (a : Int) : ∀ (l m : List S70) (c : C), clock_run a (l ++ m) c = clock_run a m (clock_run a l c)
  | [], m, c => rfl
  | x :: l, m, c => run_app a l m (clock_step a x c)
/-- What lies ahead of a time does not depend on where the presentation is cut behind it. -/
theorem run_same {a b : Int} : ∀ {l : List S70} {c : C}, (∀ x, x ∈ l → x.f1 ≤ a ∧ x.f1 ≤ b) → clock_run a l c = clock_run b l c
  | [], c, _ => rfl
  | x :: l, c, h => by
    have h0 := h x (by simp)
    have e : clock_step a x c = clock_step b x c := by
      have m1 : mn x.f1 a = x.f1 := by unfold mn; rw [if_neg (by omega)]
      have m2 : mn x.f1 b = x.f1 := by unfold mn; rw [if_neg (by omega)]
      have n1 : ¬ x.f1 > a := by omega
      have n2 : ¬ x.f1 > b := by omega
      unfold clock_step
      simp only [m1, m2, if_neg n1, if_neg n2]
    unfold clock_run
    rw [e]
    exact run_same (fun y hy => h y (by simp [hy]))
theorem run_good {a : Int} : ∀ {l : List S70} {c : C} {lo hi : Int}, G a c → c.2.2.2.2 ≤ lo → Srt lo l hi → G a (clock_run a l c) ∧ (clock_run a l c).2.2.2.2 ≤ hi ∧ (c.2.2.2.1 ≠ [] → (clock_run a l c).2.1 - S (clock_run a l c).2.2.2.1 = c.2.1 - S c.2.2.2.1 ∧ (clock_run a l c).2.2.2.1 ≠ [])
  | [], c, lo, hi, g, hl, hs => ⟨g, Int.le_trans hl hs, fun h => ⟨rfl, h⟩⟩
  | x :: l, c, lo, hi, g, hl, hs => by
    have st := step_ok g (Int.le_trans hl hs.1)
    obtain ⟨i1, i2, i3⟩ := run_good (l := l) st.good (show (clock_step a x c).2.2.2.2 ≤ x.f1 by rw [st.last]; exact mn_le.2) hs.2
    refine ⟨i1, i2, fun hne => ?_⟩
    obtain ⟨d1, d2⟩ := st.diff hne
    obtain ⟨d3, d4⟩ := i3 d2
    unfold clock_run
    exact ⟨by rw [d3, d1], d4⟩
theorem run_nil {a : Int} : ∀ {l : List S70} {c : C} {lo hi : Int}, G a c → c.2.2.2.2 ≤ lo → Srt lo l hi → c.2.2.2.1 = [] → (∀ x, x ∈ l → ¬ (x.f0 = 2 ∧ x.f1 ≤ a)) → (clock_run a l c).2.2.2.1 = []
  | [], c, lo, hi, g, hl, hs, hn, _ => hn
  | x :: l, c, lo, hi, g, hl, hs, hn, hno => by
    have st := step_ok g (Int.le_trans hl hs.1)
    unfold clock_run
    exact run_nil (l := l) st.good (show (clock_step a x c).2.2.2.2 ≤ x.f1 by rw [st.last]; exact mn_le.2) hs.2 (st.nil (hno x (by simp)) hn) (fun y hy => hno y (by simp [hy]))
theorem run_len {a : Int} : ∀ {l : List S70} {c : C} {lo hi : Int}, G a c → c.2.2.2.2 ≤ lo → Srt lo l hi → (clock_run a l c).2.2.2.1.length ≤ c.2.2.2.1.length + l.length
  | [], c, lo, hi, g, hl, hs => by simp [clock_run]
  | x :: l, c, lo, hi, g, hl, hs => by
    have st := step_ok g (Int.le_trans hl hs.1)
    unfold clock_run
    have := run_len (l := l) st.good (show (clock_step a x c).2.2.2.2 ≤ x.f1 by rw [st.last]; exact mn_le.2) hs.2
    have := st.len3
    simp only [List.length_cons]; omega
def Apart (a b lo : Int) (c d : C) : Prop := c = d ∨ (a < lo ∧ c.2.2.2.2 = a ∧ a ≤ d.2.2.2.2 ∧ c.2.1 ≤ d.2.1 ∧ d.2.1 ≤ c.2.1 + (d.2.2.2.2 - a) ∧ c.2.2.2.1.length ≤ d.2.2.2.1.length)
theorem run_apart {a b : Int} (hab : a ≤ b) : ∀ {l : List S70} {c d : C} {lo hi : Int}, G a c → G b d → c.2.2.2.2 ≤ lo → d.2.2.2.2 ≤ lo → Srt lo l hi → Apart a b lo c d → Apart a b hi (clock_run a l c) (clock_run b l d)
  | [], c, d, lo, hi, gc, gd, hc, hd, hs, ha => by
    rcases ha with h | ⟨h, k⟩
    · exact Or.inl h
    · exact Or.inr ⟨Int.lt_of_lt_of_le h hs, k⟩
  | x :: l, c, d, lo, hi, gc, gd, hc, hd, hs, ha => by
    have sc := step_ok gc (Int.le_trans hc hs.1)
    have sd := step_ok gd (Int.le_trans hd hs.1)
    unfold clock_run
    refine run_apart hab (l := l) sc.good sd.good (by rw [sc.last]; exact mn_le.2) (by rw [sd.last]; exact mn_le.2) hs.2 ?_
    have hx := hs.1
    by_cases hxa : x.f1 ≤ a
    · rcases ha with rfl | ⟨h, _⟩
      · left
        have := run_same (a := a) (b := b) (l := [x]) (c := c) (fun y hy => by simp at hy; subst hy; exact ⟨hxa, by omega⟩)
        simpa [clock_run] using this
      · omega
    · right
      have m1 : mn x.f1 a = a := by unfold mn; rw [if_pos (by omega)]
      have m2 : a ≤ mn x.f1 b := mn_ge (by omega) hab
      have tc := sc.tot; have td := sd.tot; have lc := sc.last; have ld := sd.last
      rw [m1] at tc lc
      have g1 := gc.l1; have g2 := gd.l0
      refine ⟨by omega, lc, by rw [ld]; exact m2, ?_⟩
      have n1 := sc.len2 (by omega)
      have n2 := sd.len
      have k1 : d.2.2.2.2 ≤ mn x.f1 b := mn_ge (Int.le_trans hd hx) gd.l1
      rcases ha with rfl | ⟨h, e1, e2, e3, e4, e5⟩
      · refine ⟨?_, ?_, by omega⟩
        · rw [tc, td]; split <;> omega
        · rw [tc, td, ld]; split <;> omega
      · refine ⟨?_, ?_, by omega⟩
        · rw [tc, td]; split <;> split <;> omega
        · rw [tc, td, ld]; split <;> split <;> omega
/-- The presentation, cut at a time. -/
def R (evs : List S70) (a : Int) : C := clock_run a (evs ++ [⟨-1, a, 0⟩]) (false, 0, 0, ([] : List S72), 0)
theorem good0 {a : Int} (h : 0 ≤ a) (k : a ≤ 100000) : G a (false, 0, 0, ([] : List S72), 0) := ⟨Int.le_refl _, h, k, Int.le_refl _, Int.le_refl _, fun x hx => by simp at hx, Int.le_refl _, fun q => by simp [cnt], Or.inl rfl⟩
theorem Srt.snoc : ∀ {l : List S70} {lo hi : Int} (x : S70), Srt lo l hi → hi ≤ x.f1 → Srt lo (l ++ [x]) x.f1
  | [], lo, hi, x, h, k => ⟨Int.le_trans h k, Int.le_refl _⟩
  | y :: l, lo, hi, x, h, k => ⟨h.1, Srt.snoc x h.2 k⟩
/-- The last event, which is no event: it lies where the presentation is cut, or behind it. -/
theorem last_step {a : Int} {c : C} (g : G a c) : Stp a ⟨-1, a, 0⟩ c (clock_step a ⟨-1, a, 0⟩ c) := step_ok g g.l1
theorem R_eq (evs : List S70) (a : Int) : R evs a = clock_step a ⟨-1, a, 0⟩ (clock_run a evs (false, 0, 0, ([] : List S72), 0)) := by
  unfold R; rw [run_app]; rfl
theorem R_good {evs : List S70} {a hi : Int} (h : 0 ≤ a) (k : a ≤ 100000) (hs : Srt 0 evs hi) : G a (R evs a) := by
  rw [R_eq]
  exact (last_step (run_good (good0 h k) (Int.le_refl _) hs).1).good
theorem R_len {evs : List S70} {a hi : Int} (h : 0 ≤ a) (k : a ≤ 100000) (hs : Srt 0 evs hi) : (R evs a).2.2.2.1.length ≤ evs.length + 1 := by
  rw [R_eq]
  have g0 := good0 h k
  have h1 := (last_step (run_good g0 (Int.le_refl _) hs).1).len3
  have h2 := run_len g0 (Int.le_refl _) hs
  simp only [List.length_nil] at h2
  omega
theorem R_grows {evs : List S70} {a b hi : Int} (h : 0 ≤ a) (hab : a ≤ b) (k : b ≤ 100000) (hs : Srt 0 evs hi) : (R evs a).2.1 ≤ (R evs b).2.1 ∧ (R evs b).2.1 ≤ (R evs a).2.1 + (b - a) ∧ (R evs a).2.2.2.1.length ≤ (R evs b).2.2.2.1.length := by
  have g0 := good0 h (Int.le_trans hab k)
  have g1 := good0 (Int.le_trans h hab) k
  have ha := (run_good g0 (Int.le_refl _) hs).1
  have hb := (run_good g1 (Int.le_refl _) hs).1
  have hap := run_apart hab (l := evs) g0 g1 (Int.le_refl _) (Int.le_refl _) hs (Or.inl rfl)
  rw [R_eq, R_eq]
  obtain ⟨c, hc⟩ : ∃ c, c = clock_run a evs (false, 0, 0, ([] : List S72), 0) := ⟨_, rfl⟩
  obtain ⟨d, hd⟩ : ∃ d, d = clock_run b evs (false, 0, 0, ([] : List S72), 0) := ⟨_, rfl⟩
  rw [← hc] at ha hap
  rw [← hd] at hb hap
  rw [← hc, ← hd]
  have sc := last_step ha
  have sd := last_step hb
  have tc := sc.tot; have td := sd.tot
  have ma : mn a a = a := by unfold mn; rw [if_neg (by omega)]
  have mb : mn b b = b := by unfold mn; rw [if_neg (by omega)]
  simp only [ma] at tc
  simp only [mb] at td
  have n1 := sc.len; have n2 := sd.len
  have n3 : (clock_step a ⟨-1, a, 0⟩ c).2.2.2.1.length = c.2.2.2.1.length := by
    unfold clock_step
    rw [if_neg (by show ¬ a > a; omega), if_neg (by show ¬ (-1 : Int) = 0; omega), if_neg (by show ¬ ((-1 : Int) = 1 ∨ (-1 : Int) = 3); omega), if_neg (by show ¬ (-1 : Int) = 2; omega)]
    show (if c.1 = true then _ else _ : List S72).length = _
    split <;> simp
  have l1 := ha.l1; have l2 := hb.l1
  rcases hap with e | ⟨_, e1, e2, e3, e4, e5⟩
  · subst e
    refine ⟨?_, ?_, by omega⟩
    · rw [tc, td]; split <;> omega
    · rw [tc, td]; split <;> omega
  · refine ⟨?_, ?_, by omega⟩
    · rw [tc, td]; split <;> split <;> omega
    · rw [tc, td]; split <;> split <;> omega
theorem R_nil {evs : List S70} {a hi : Int} (h : 0 ≤ a) (k : a ≤ 100000) (hs : Srt 0 evs hi) (hno : ∀ x, x ∈ evs → ¬ (x.f0 = 2 ∧ x.f1 ≤ a)) : (R evs a).2.2.2.1 = [] := by
  rw [R_eq]
  have g0 := good0 h k
  exact (last_step (run_good g0 (Int.le_refl _) hs).1).nil (fun h => by have := h.1; simp at this) (run_nil g0 (Int.le_refl _) hs rfl hno)
/-- Behind the first slide, what lies outside of the slides is as it was there. -/
theorem R_first {pre post : List S70} {e : S70} {a hi : Int} (k : a ≤ 100000) (hs : Srt 0 (pre ++ e :: post) hi) (he : e.f0 = 2) (hea : e.f1 ≤ a) (hno : ∀ x, x ∈ pre → x.f0 ≠ 2) :
    (R (pre ++ e :: post) a).2.1 - S (R (pre ++ e :: post) a).2.2.2.1 = (clock_step 100000 e (clock_run 100000 pre (false, 0, 0, ([] : List S72), 0))).2.1 ∧ (R (pre ++ e :: post) a).2.2.2.1 ≠ [] := by
  have split_ : ∀ {l : List S70} {lo : Int}, Srt lo (l ++ e :: post) hi → Srt lo l e.f1 ∧ Srt e.f1 post hi := by
    intro l
    induction l with
    | nil => intro lo h; exact ⟨h.1, h.2⟩
    | cons x l ih => intro lo h; exact ⟨⟨h.1, (ih h.2).1⟩, (ih h.2).2⟩
  obtain ⟨h1, h2⟩ := split_ hs
  have h0 : 0 ≤ a := Int.le_trans h1.le hea
  have g0 := good0 h0 k
  have gp := run_good g0 (Int.le_refl _) h1
  have e1 : clock_run a (pre ++ [e]) (false, 0, 0, ([] : List S72), 0) = clock_run 100000 (pre ++ [e]) (false, 0, 0, ([] : List S72), 0) := run_same (fun x hx => by
    simp only [List.mem_append, List.mem_singleton] at hx
    rcases hx with hx | rfl
    · have := (h1.mem x hx).2; omega
    · omega)
  rw [run_app, run_app] at e1
  have e2 : clock_step a e (clock_run a pre (false, 0, 0, ([] : List S72), 0)) = clock_step 100000 e (clock_run 100000 pre (false, 0, 0, ([] : List S72), 0)) := e1
  have st := step_ok gp.1 gp.2.1
  have nl := run_nil g0 (Int.le_refl _) h1 rfl (fun x hx h => hno x hx h.1)
  have z := st.first nl
  have ne := st.two he hea
  obtain ⟨q1, q2, q3⟩ := run_good (l := post) st.good (show _ ≤ e.f1 by rw [st.last]; exact mn_le.2) h2
  obtain ⟨q4, q5⟩ := q3 ne
  obtain ⟨q6, q7⟩ := (last_step q1).diff q5
  have er : R (pre ++ e :: post) a = clock_step a ⟨-1, a, 0⟩ (clock_run a post (clock_step a e (clock_run a pre (false, 0, 0, ([] : List S72), 0)))) := by
    rw [R_eq, run_app]; rfl
  rw [er]
  refine ⟨?_, q7⟩
  rw [q6, q4, z, e2]; omega

/-! ### Lists of events that Check lets pass -/
def St (r : Bool) (x : S70) (r1 : Bool) : Prop := (x.f0 = 0 ∧ r = false ∧ r1 = true ∧ x.f2 = 0) ∨ (x.f0 = 1 ∧ r = true ∧ r1 = false ∧ x.f2 = 0) ∨ (x.f0 = 2 ∧ r1 = r ∧ 1 ≤ x.f2 ∧ x.f2 ≤ 4)
def Pth : Bool → Int → List S70 → Bool → Int → Prop
  | r, lo, [], r', lo' => r = r' ∧ lo = lo'
  | r, lo, x :: l, r', lo' => lo ≤ x.f1 ∧ ∃ r1, St r x r1 ∧ Pth r1 x.f1 l r' lo'
theorem Pth.srt : ∀ {l : List S70} {r r' : Bool} {lo lo' : Int}, Pth r lo l r' lo' → Srt lo l lo'
  | [], _, _, _, _, h => by rw [h.2]; exact Int.le_refl _
  | x :: l, _, _, _, _, h => by obtain ⟨h1, _, _, h2⟩ := h; exact ⟨h1, h2.srt⟩
theorem Pth.snoc {x : S70} {r2 : Bool} : ∀ {l : List S70} {r r' : Bool} {lo lo' : Int}, Pth r lo l r' lo' → lo' ≤ x.f1 → St r' x r2 → Pth r lo (l ++ [x]) r2 x.f1
  | [], _, _, _, _, h, k, s => by obtain ⟨rfl, rfl⟩ := h; exact ⟨k, _, s, rfl, rfl⟩
  | y :: l, _, _, _, _, h, k, s => by obtain ⟨h1, r1, h2, h3⟩ := h; exact ⟨h1, r1, h2, h3.snoc k s⟩
theorem chk_ok : ∀ (post pre : List S70) (r r' : Bool) (lo lo' : Int), Pth r lo post r' lo' → 0 ≤ lo → lo' ≤ 10000000 → (pre ++ post).length ≤ 1000 → EvP (fun k => clock_Check.l0 k r lo false (pre ++ post) ((pre ++ post).length : Int) (pre.length : Int)) (· = 0)
  | [], pre, r, r', lo, lo', h, h0, h1, hn => EvP.step (fun k => by simp only [clock_Check.l0]; rfl) (EvP.neg (by simp) (EvP.ret rfl))
  | x :: post, pre, r, r', lo, lo', h, h0, h1, hn => by
    obtain ⟨hx, r1, hs, hp⟩ := h
    have hle := hp.srt.le
    have hl : ((pre ++ x :: post).length : Int) = (pre.length : Int) + 1 + (post.length : Int) := by simp; omega
    have ih := chk_ok post (pre ++ [x]) r1 r' x.f1 lo' hp (by omega) h1 (by simpa using hn)
    rw [List.append_assoc, List.singleton_append] at ih
    have hw : wrap64 ((pre.length : Int) + 1) = ((pre ++ [x]).length : Int) := by rw [wz (by omega) (by have := hn; simp at this; omega)]; simp
    have hk : 0 ≤ x.f0 ∧ x.f0 ≤ 2 := by rcases hs with h | h | h <;> omega
    have hf2 : 0 ≤ x.f2 ∧ x.f2 ≤ 4 := by rcases hs with h | h | h <;> omega
    refine EvP.step (fun k => by simp only [clock_Check.l0]; rfl) (EvP.pos (by omega) (EvP.pos (by omega) (EvP.pos (by omega) ?_)))
    simp only [rd70]
    refine EvP.neg (by omega) ?_
    rw [show decide (x.f0 > 3) = false from decide_eq_false (by omega)]
    refine EvP.step (fun k => by simp only [clock_Check.j1]; rfl) (EvP.neg (by simp) (EvP.neg (by omega) (EvP.neg (by omega) (EvP.neg (by omega) ?_))))
    rw [show decide (x.f2 > 1000) = false from decide_eq_false (by omega)]
    refine EvP.step (fun k => by simp only [clock_Check.j2]; rfl) (EvP.neg (by simp) (EvP.neg ?_ (EvP.neg (by omega) (EvP.neg (by simp) ?_))))
    · rcases hs with h | h | h
      · rw [show decide (x.f2 > 0) = false from decide_eq_false (by omega), h.1]; simp
      · rw [show decide (x.f2 > 0) = false from decide_eq_false (by omega), h.1]; simp
      · rw [show decide (x.f2 > 0) = true from decide_eq_true (by omega), h.1]; simp
    · rcases hs with ⟨e0, rfl, rfl, _⟩ | ⟨e0, rfl, rfl, _⟩ | ⟨e0, rfl, _, _⟩
      · refine EvP.pos e0 (EvP.neg (by simp) (EvP.neg (by omega) ?_))
        refine EvP.step (fun k => by simp only [clock_Check.j3]; rfl) (EvP.neg (by simp) (EvP.pos e0 ?_))
        rw [hw]; exact ih
      · refine EvP.neg (by omega) (EvP.pos e0 ?_)
        refine EvP.step (fun k => by simp only [clock_Check.j3]; rfl) (EvP.neg (by simp) (EvP.neg (by omega) (EvP.pos e0 ?_)))
        rw [hw]; exact ih
      · refine EvP.neg (by omega) (EvP.neg (by omega) ?_)
        refine EvP.step (fun k => by simp only [clock_Check.j3]; rfl) (EvP.neg (by simp) (EvP.neg (by omega) (EvP.neg (by omega) (EvP.neg (by omega) ?_))))
        rw [hw]; exact ih
theorem Check_ok {l : List S70} {r' : Bool} {lo' : Int} (h : Pth false 0 l r' lo') (h1 : lo' ≤ 10000000) (hn : l.length ≤ 1000) : EvP (fun k => clock_Check.f k l) (· = 0) := by
  unfold clock_Check.f
  exact EvP.neg (by omega) (chk_ok l [] false r' 0 lo' h (by omega) h1 (by simpa using hn))
theorem Report_ok {l : List S70} {r' : Bool} {lo' a : Int} (h : Pth false 0 l r' lo') (h1 : lo' ≤ 10000000) (hn : l.length ≤ 1000) (ha : 0 ≤ a) (ha2 : a ≤ 10000000) : EvP (fun k => clock_Report.f k l a) (fun t => t = ((R l a).1, (R l a).2.1, (R l a).2.2.1, (R l a).2.2.2.1, 0)) := by
  unfold clock_Report.f
  refine EvP.bind (Check_ok h h1 hn) (fun t ht => ?_)
  subst ht
  refine EvP.pos rfl (EvP.neg (by omega) (EvP.ret ?_))
  rfl

/-! ### The law's own parts -/
theorem clocked_ok : EvP (fun k => ck_clocked.f k) (· = true) := by
  unfold ck_clocked.f
  refine EvP.bind (Report_ok (l := [(⟨0, 5, 0⟩ : S70)]) (r' := true) (lo' := 5) (a := 9) ⟨by decide, true, Or.inl ⟨rfl, rfl, rfl, rfl⟩, rfl, rfl⟩ (by omega) (by simp) (by omega) (by omega)) (fun t ht => ?_)
  subst ht
  have e : R [(⟨0, 5, 0⟩ : S70)] 9 = (true, 4, 0, [], 9) := by unfold R; simp [clock_run, clock_step, mn, wrap64]
  rw [e]
  exact EvP.pos rfl (EvP.pos rfl (EvP.ret (by decide)))
theorem within_ev {x lo hi : Int} (hx : -9223372036854775808 ≤ x ∧ x ≤ 9223372036854775807) (h : lo ≤ hi) (hlo : -4611686018427387904 ≤ lo) (hhi : hi ≤ 4611686018427387904) (hd : hi - lo < 2305843009213693952) : EvP (fun _ => ck_within.f x lo hi) (fun r => lo ≤ r ∧ r ≤ hi) := by
  obtain ⟨r, h1, h2⟩ := within_ok hx h hlo hhi hd
  exact EvP.cst h1 h2
def B70 (x : S70) : Prop := (-9223372036854775808 ≤ x.f0 ∧ x.f0 ≤ 9223372036854775807) ∧ (-9223372036854775808 ≤ x.f1 ∧ x.f1 ≤ 9223372036854775807) ∧ (-9223372036854775808 ≤ x.f2 ∧ x.f2 ≤ 9223372036854775807)
theorem events_ok : ∀ (post pre out : List S70) (r : Bool) (t : Int), (∀ x, x ∈ pre ++ post → B70 x) → (pre ++ post).length ≤ 9223372036854775807 → pre.length ≤ 20 → Pth false 0 out r t → out.length ≤ pre.length → t ≤ 300 * (pre.length : Int) →
    EvP (fun k => ck_events.l0 k (pre ++ post) out t r (pre.length : Int)) (fun l => ∃ r' t', Pth false 0 l r' t' ∧ l.length ≤ 20 ∧ t' ≤ 6000)
  | [], pre, out, r, t, hb, hn, hi, hp, hl, ht => by
    refine EvP.step (fun k => by simp only [ck_events.l0]; rfl) (EvP.neg (by simp) ?_)
    exact EvP.step (fun k => by simp only [ck_events.j1]; rfl) (EvP.neg (by simp) (EvP.ret ⟨r, t, hp, by omega, by omega⟩))
  | x :: post, pre, out, r, t, hb, hn, hi, hp, hl, ht => by
    have hln : ((pre ++ x :: post).length : Int) = (pre.length : Int) + 1 + (post.length : Int) := by simp; omega
    refine EvP.step (fun k => by simp only [ck_events.l0]; rfl) (EvP.pos (by omega) ?_)
    by_cases h20 : (pre.length : Int) < 20
    · rw [show decide ((pre.length : Int) < 20) = true from decide_eq_true h20]
      have hbx := hb x (by simp)
      have ht0 := hp.srt.le
      have hw : wrap64 ((pre.length : Int) + 1) = ((pre ++ [x]).length : Int) := by rw [wz (by omega) (by omega)]; simp
      have next : ∀ (y : S70) (r2 : Bool), t ≤ y.f1 → y.f1 ≤ t + 300 → St r y r2 → EvP (fun k => ck_events.l0 k (pre ++ x :: post) (out ++ [y]) y.f1 r2 (wrap64 ((pre.length : Int) + 1))) (fun l => ∃ r' t', Pth false 0 l r' t' ∧ l.length ≤ 20 ∧ t' ≤ 6000) := fun y r2 h1 h2 hs => by
        have ih := events_ok post (pre ++ [x]) (out ++ [y]) r2 y.f1 (by simpa using hb) (by simpa using hn) (by simp; omega) (hp.snoc h1 hs) (by simp; omega) (by simp; omega)
        rw [List.append_assoc, List.singleton_append] at ih
        rw [hw]; exact ih
      refine EvP.step (fun k => by simp only [ck_events.j1]; rfl) (EvP.pos (by simp) (EvP.pos (by omega) (EvP.pos (by omega) ?_)))
      simp only [rd70]
      refine EvP.bind (within_ev hbx.2.1 (by omega) (by omega) (by omega) (by omega)) (fun u hu => ?_)
      have hwu : wrap64 (t + u) = t + u := wz (by omega) (by omega)
      rw [hwu]
      refine EvP.bind (within_ev hbx.1 (by omega) (by omega) (by omega) (by omega)) (fun kd hkd => ?_)
      refine EvP.ite (fun e2 => ?_) (fun e2 => EvP.ite (fun er => ?_) (fun er => ?_))
      · refine EvP.bind (within_ev hbx.2.2 (by omega) (by omega) (by omega) (by omega)) (fun sl hsl => ?_)
        exact EvP.pos (by omega) (next ⟨kd, t + u, sl⟩ r (by show t ≤ t + u; omega) (by show t + u ≤ _; omega) (Or.inr (Or.inr ⟨e2, rfl, hsl⟩)))
      · exact EvP.pos (by omega) (next ⟨1, t + u, 0⟩ false (by show t ≤ t + u; omega) (by show t + u ≤ _; omega) (Or.inr (Or.inl ⟨rfl, er, rfl, rfl⟩)))
      · exact EvP.pos (by omega) (next ⟨0, t + u, 0⟩ true (by show t ≤ t + u; omega) (by show t + u ≤ _; omega) (Or.inl ⟨rfl, by simpa using er, rfl, rfl⟩))
    · rw [show decide ((pre.length : Int) < 20) = false from decide_eq_false h20]
      exact EvP.step (fun k => by simp only [ck_events.j1]; rfl) (EvP.neg (by simp) (EvP.ret ⟨r, t, hp, by omega, by omega⟩))
/-! the slides' times, added and taken away -/
theorem l2_ok (run : Bool) (tot sl : Int) (l : List S72) (hnn : NN l) (hb : S l ≤ 100000) (hlen : l.length ≤ 1000) : ∀ (post pre : List S72) (x : Int), l = pre ++ post → -1000000 ≤ x → x + S post ≤ 1000000 → (l ≠ [] → x + S post = tot) →
    EvP (fun k => ck_ClockAddsUp.l2 k x l (l.length : Int) (pre.length : Int) run tot sl l) (· = true)
  | [], pre, x, e, h0, h1, h2 => by
    refine EvP.step (fun k => by simp only [ck_ClockAddsUp.l2]; rfl) (EvP.neg (by rw [e]; simp) ?_)
    refine EvP.ite (fun _ => EvP.ret rfl) (fun hne => EvP.ret ?_)
    have := h2 (fun h => hne (by rw [h]; rfl))
    simp only [S] at this
    simp; omega
  | y :: post, pre, x, e, h0, h1, h2 => by
    have hy : 0 ≤ y.f1 := hnn y (by rw [e]; simp)
    have hp : NN post := fun z hz => hnn z (by rw [e]; simp [hz])
    have hS := S_nn hp
    simp only [S] at h1 h2
    have hln : (l.length : Int) = (pre.length : Int) + 1 + (post.length : Int) := by rw [e]; simp; omega
    refine EvP.step (fun k => by simp only [ck_ClockAddsUp.l2]; rfl) (EvP.pos (by omega) (EvP.pos (by omega) (EvP.pos (by omega) ?_)))
    have hr : rd_T72 l (pre.length : Int) = y := by rw [e]; exact rd72
    simp only [hr]
    rw [wz (n := x + y.f1) (by omega) (by omega), show wrap64 ((pre.length : Int) + 1) = ((pre ++ [y]).length : Int) by rw [wz (by omega) (by omega)]; simp]
    exact l2_ok run tot sl l hnn hb hlen post (pre ++ [y]) (x + y.f1) (by rw [e]; simp) (by omega) (by omega) (fun h => by have := h2 h; omega)
theorem j4_ok (run : Bool) (tot sl x : Int) (l : List S72) (hnn : NN l) (hb : S l ≤ 100000) (hlen : l.length ≤ 1000) (h0 : -1000 ≤ x) (h1 : x ≤ 100000) (h2 : l ≠ [] → x + S l = tot) : EvP (fun k => ck_ClockAddsUp.j4 k x run tot sl l) (· = true) :=
  EvP.step (fun k => by simp only [ck_ClockAddsUp.j4]; rfl) (l2_ok run tot sl l hnn hb hlen l [] x rfl (by omega) (by omega) h2)
theorem l1_ok (run : Bool) (tot sl : Int) (m l : List S72) (hnn : NN l) (hb : S l ≤ 100000) (hlen : l.length ≤ 1000) (hm : NN m) (hmlen : m.length ≤ 1000) : ∀ (post pre : List S72) (x : Int), m = pre ++ post → x ≤ 100000 → -1000 ≤ x - S post → (l ≠ [] → x - S post + S l = tot) →
    EvP (fun k => ck_ClockAddsUp.l1 k x m (m.length : Int) (pre.length : Int) run tot sl l) (· = true)
  | [], pre, x, e, h0, h1, h2 => by
    refine EvP.step (fun k => by simp only [ck_ClockAddsUp.l1]; rfl) (EvP.neg (by rw [e]; simp) ?_)
    simp only [S] at h1 h2
    exact j4_ok run tot sl x l hnn hb hlen (by omega) h0 (fun h => by have := h2 h; omega)
  | y :: post, pre, x, e, h0, h1, h2 => by
    have hy : 0 ≤ y.f1 := hm y (by rw [e]; simp)
    have hp : NN post := fun z hz => hm z (by rw [e]; simp [hz])
    have hS := S_nn hp
    simp only [S] at h1 h2
    have hln : (m.length : Int) = (pre.length : Int) + 1 + (post.length : Int) := by rw [e]; simp; omega
    refine EvP.step (fun k => by simp only [ck_ClockAddsUp.l1]; rfl) (EvP.pos (by omega) (EvP.pos (by omega) (EvP.pos (by omega) ?_)))
    have hr : rd_T72 m (pre.length : Int) = y := by rw [e]; exact rd72
    simp only [hr]
    rw [wz (n := x - y.f1) (by omega) (by omega), show wrap64 ((pre.length : Int) + 1) = ((pre ++ [y]).length : Int) by rw [wz (by omega) (by omega)]; simp]
    exact l1_ok run tot sl m l hnn hb hlen hm hmlen post (pre ++ [y]) (x - y.f1) (by rw [e]; simp) (by omega) (by omega) (fun h => by have := h2 h; omega)

section law
variable {evs : List S70} {r' : Bool} {lo' a : Int} (hp : Pth false 0 evs r' lo') (hlo : lo' ≤ 6000) (hn : evs.length ≤ 20) (h0 : 0 ≤ a) (h1 : a ≤ 7000)
include hp hlo hn h0 h1
theorem law_l0 : ∀ (post pre : List S70), evs = pre ++ post → (∀ x, x ∈ pre → ¬ (x.f0 = 2 ∧ x.f1 ≤ a)) →
    EvP (fun k => ck_ClockAddsUp.l0 k evs a 0 evs (evs.length : Int) (pre.length : Int) (R evs a).1 (R evs a).2.1 (R evs a).2.2.1 (R evs a).2.2.2.1) (· = true)
  | [], pre, e, hno => by
    have hs := hp.srt
    have g := R_good h0 (by omega) hs
    have hlen := R_len h0 (by omega) hs
    have hnil := R_nil h0 (by omega) hs (by rw [e, List.append_nil]; exact hno)
    have b1 := g.s1; have b2 := g.t1; have b3 := g.l1
    refine EvP.step (fun k => by simp only [ck_ClockAddsUp.l0]; rfl) (EvP.neg (by rw [e]; simp) ?_)
    exact j4_ok _ _ _ 0 _ g.nn (by omega) (by omega) (by omega) (by omega) (fun h => absurd hnil h)
  | x :: post, pre, e, hno => by
    have hs := hp.srt
    have g := R_good h0 (by omega) hs
    have hlen := R_len h0 (by omega) hs
    have b1 := g.s1; have b2 := g.t1; have b3 := g.l1
    have hln : (evs.length : Int) = (pre.length : Int) + 1 + (post.length : Int) := by rw [e]; simp; omega
    have hr : rd_T70 evs (pre.length : Int) = x := by rw [e]; exact rd70
    have hw : wrap64 ((pre.length : Int) + 1) = ((pre ++ [x]).length : Int) := by rw [wz (by omega) (by omega)]; simp
    have next : ¬ (x.f0 = 2 ∧ x.f1 ≤ a) → EvP (fun k => ck_ClockAddsUp.j2 k evs a 0 evs (evs.length : Int) (pre.length : Int) false (R evs a).1 (R evs a).2.1 (R evs a).2.2.1 (R evs a).2.2.2.1 x.f0 x.f1 x.f2) (· = true) := fun hx => by
      have ih := law_l0 post (pre ++ [x]) (by rw [e]; simp) (fun y hy => by
        simp only [List.mem_append, List.mem_singleton] at hy
        rcases hy with hy | rfl
        · exact hno y hy
        · exact hx)
      refine EvP.step (fun k => by simp only [ck_ClockAddsUp.j2]; rfl) (EvP.neg (by simp) ?_)
      rw [hw]; exact ih
    refine EvP.step (fun k => by simp only [ck_ClockAddsUp.l0]; rfl) (EvP.pos (by omega) (EvP.pos (by omega) (EvP.pos (by omega) ?_)))
    simp only [hr]
    refine EvP.ite (fun h2 => ?_) (fun h2 => next (fun h => h2 h.1))
    by_cases hxa : x.f1 ≤ a
    · rw [decide_eq_true hxa]
      have hs' : Srt 0 (pre ++ x :: post) lo' := e ▸ hs
      have hpre : ∀ y, y ∈ pre → y.f1 ≤ x.f1 := by
        have : ∀ {l : List S70} {lo : Int}, Srt lo (l ++ x :: post) lo' → ∀ y, y ∈ l → y.f1 ≤ x.f1 := by
          intro l
          induction l with
          | nil => intro lo _ y hy; simp at hy
          | cons z l ih =>
            intro lo h y hy
            have h3 := (show Srt z.f1 (l ++ x :: post) lo' from h.2).mem x (by simp)
            simp only [List.mem_cons] at hy
            rcases hy with rfl | hy
            · exact h3.1
            · exact ih h.2 y hy
        exact this hs'
      have hno2 : ∀ y, y ∈ pre → y.f0 ≠ 2 := fun y hy h => hno y hy ⟨h, Int.le_trans (hpre y hy) hxa⟩
      have hx0 : 0 ≤ x.f1 := (hs'.mem x (by simp)).1
      obtain ⟨f1, _⟩ := R_first (a := a) (by omega) hs' h2 hxa hno2
      obtain ⟨f2, f3⟩ := R_first (a := x.f1) (by omega) hs' h2 (Int.le_refl _) hno2
      rw [← e] at f1 f2 f3
      have gx := R_good hx0 (by omega) hs
      have hlenx := R_len hx0 (by omega) hs
      have d1 := gx.s1; have d2 := gx.t1; have d3 := gx.l1
      refine EvP.step (fun k => by simp only [ck_ClockAddsUp.j2]; rfl) (EvP.pos (by simp) ?_)
      refine EvP.bind (Report_ok hp (by omega) (by omega) hx0 (by omega)) (fun t ht => ?_)
      subst ht
      refine EvP.pos (by have : 0 < (R evs x.f1).2.2.2.1.length := List.length_pos_iff.2 f3; show ((R evs x.f1).2.2.2.1.length : Int) > 0; omega) ?_
      have dn := S_nn gx.nn; have t0 := gx.t0
      dsimp only
      exact l1_ok _ _ _ (R evs x.f1).2.2.2.1 _ g.nn (by omega) (by omega) gx.nn (by omega) (R evs x.f1).2.2.2.1 [] (R evs x.f1).2.1 rfl (by omega) (by omega) (fun _ => by omega)
    · rw [decide_eq_false hxa]
      exact next (fun h => hxa h.2)
end law
theorem ClockAddsUp : ClockAddsUp_Pure := by
  intro l0 a1 a2 w0 w1 w2
  have b1 := bounds64 w1
  have b2 := bounds64 w2
  have hb : ∀ x, x ∈ [] ++ l0 → B70 x := fun x hx => by
    have := w0.1 x (by simpa using hx)
    exact ⟨bounds64 this.1, bounds64 this.2.1, bounds64 this.2.2⟩
  refine EvP.rounds (g := fun k => ck_ClockAddsUp.f k l0 a1 a2) ?_
  unfold ck_ClockAddsUp.f
  refine EvP.bind clocked_ok (fun t ht => ?_)
  subst ht
  refine EvP.pos rfl ?_
  refine EvP.bind (P := fun l => ∃ r' t', Pth false 0 l r' t' ∧ l.length ≤ 20 ∧ t' ≤ 6000) (by unfold ck_events.f; exact events_ok l0 [] [] false 0 hb w0.2 (by simp) ⟨rfl, rfl⟩ (by simp) (by simp)) (fun evs hev => ?_)
  obtain ⟨r', lo', hp, hn, hlo⟩ := hev
  refine EvP.bind (within_ev b1 (by omega) (by omega) (by omega) (by omega)) (fun a ha => ?_)
  refine EvP.bind (within_ev b2 (by omega) (by omega) (by omega) (by omega)) (fun m hm => ?_)
  have hs := hp.srt
  rw [wz (n := a + m) (by omega) (by omega)]
  refine EvP.bind (Report_ok hp (by omega) (by omega) ha.1 (by omega)) (fun t ht => ?_)
  subst ht
  refine EvP.bind (Report_ok hp (by omega) (by omega) (by omega) (by omega)) (fun t ht => ?_)
  subst ht
  obtain ⟨k1, k2, k3⟩ := R_grows (evs := evs) (a := a) (b := a + m) ha.1 (by omega) (by omega) hs
  have g := R_good ha.1 (by omega) hs
  have t0 := g.t0; have t1 := g.t1; have t2 := g.l1
  refine EvP.pos rfl (EvP.pos rfl (EvP.neg (by show ¬ (R evs (a + m)).2.1 < (R evs a).2.1; omega) (EvP.neg (by show ¬ (R evs (a + m)).2.1 > wrap64 ((R evs a).2.1 + m); rw [wz (by omega) (by omega)]; omega) ?_)))
  simp only
  rw [show decide (((R evs (a + m)).2.2.2.1.length : Int) < ((R evs a).2.2.2.1.length : Int)) = false from decide_eq_false (by omega)]
  refine EvP.step (fun k => by simp only [ck_ClockAddsUp.j0]; rfl) (EvP.neg (by simp) ?_)
  exact law_l0 hp hlo hn ha.1 ha.2 evs [] rfl (fun x hx => by simp at hx)

end Go.Proofs.Ytohaoaiffneamaa.Pure
