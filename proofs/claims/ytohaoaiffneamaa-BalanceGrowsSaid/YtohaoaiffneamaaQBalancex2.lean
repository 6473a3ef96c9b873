-- Written by a program of this session (myprint.py) for this claim: contracts of the functions that the law reaches. Not trusted: Lean checks it.
import Derived.Test.YtohaoaiffneamaaQBalancex0
import Derived.Test.YtohaoaiffneamaaQBalancex1
namespace Go.Proofs.Ytohaoaiffneamaa.QBalance
open Go.RowKit Go.Proofs.YtohaoaiffneamaaW.PrintWords Go.Proofs.YtohaoaiffneamaaW.PrintLast Go.Proofs.YtohaoaiffneamaaW.PrintMore
attribute [local go_sem] max2_int min2_int max_two min_two max_three min_three max_four min_four   -- for this text's walks alone
set_option linter.unusedVariables false
set_option linter.unusedSimpArgs false

/-! ### balance_needs: function 42 -/
/-! a row of numbers inside a block: 'pre' ahead of it, 'post' behind it -/
def Seg (w : World) (g : Nat) (pre cur post : List Int) : Prop := w.heap[g]? = some (.cells (nums .i64 (pre ++ (cur ++ post))).toArray 3 (0, 0))
theorem Seg.cell {w : World} {g : Nat} {pre cur post : List Int} (h : Seg w g pre cur post) {i : Nat} (hi : i < cur.length) : w.cell? ⟨g, pre.length + i, none⟩ = some (.int .i64 (rd cur (i : Int))) := by
 rw [blk_cell h]
 have : (pre ++ (cur ++ post))[pre.length + i]? = some (rd cur (i : Int)) := by
  rw [List.getElem?_append_right (by omega), show pre.length + i - pre.length = i by omega, List.getElem?_append_left hi]
  unfold rd; rw [Int.toNat_natCast, List.getD_eq_getElem?_getD, List.getElem?_eq_getElem hi]; rfl
 rw [List.getElem?_toArray]; unfold nums; rw [List.getElem?_map, this]; rfl
theorem Seg.frozen {w : World} {g : Nat} {pre cur post : List Int} (h : Seg w g pre cur post) (i : Nat) : w.frozen? ⟨g, i, none⟩ = false := blk_frozen h i
theorem Seg.set {w : World} {g : Nat} {pre cur post : List Int} (h : Seg w g pre cur post) {i : Nat} (hi : i < cur.length) (v : Int) : Seg (w.setCell ⟨g, pre.length + i, none⟩ (.int .i64 v)) g pre (cur.set i v) post := by
 unfold Seg at h ⊢
 rw [setCell_eq_setRow w g (pre.length + i) _ 3 (0, 0) _ h]
 rw [setRow_heap w g _ _ 3 _ h]
 congr 2
 have : (pre ++ (cur ++ post)).set (pre.length + i) v = pre ++ (cur.set i v ++ post) := by
  rw [List.set_append_right _ _ (by omega), show pre.length + i - pre.length = i by omega, List.set_append_left _ _ hi]
 rw [← this]
 simp [nums, List.map_set]
theorem Seg.reads {w : World} {g : Nat} {pre cur post : List Int} (h : Seg w g pre cur post) (hl : cur.length ≤ 9223372036854775807) : Kd.C (Kd.int .i64) w (some ⟨g, pre.length, none⟩) cur.length cur := by
 refine Kd.C_of_reads (d := (0 : Int)) ⟨rfl, hl, fun _ => ⟨_, rfl, fun j hj => ?_⟩⟩
 have e : (⟨g, pre.length, none⟩ : Addr).add j = ⟨g, pre.length + j, none⟩ := by unfold Addr.add; split <;> simp_all
 rw [e, h.cell hj]
 unfold rd; rw [Int.toNat_natCast]
theorem Seg.below {w w1 : World} {g : Nat} {pre cur post : List Int} (h : Seg w g pre cur post) (hb : Below w.heap.size w w1) : Seg w1 g pre cur post := blk_below h hb
theorem Seg.lt {w : World} {g : Nat} {pre cur post : List Int} (h : Seg w g pre cur post) : g < w.heap.size := blk_lt h
/-- All but block g is as it was. -/
def But (g : Nat) (w w' : World) : Prop := w'.os = w.os ∧ w'.tape = w.tape ∧ w'.output = w.output ∧ w.heap.size ≤ w'.heap.size ∧ ∀ k, k < w.heap.size → k ≠ g → w'.heap[k]? = w.heap[k]?
theorem But.refl (g : Nat) (w : World) : But g w w := ⟨rfl, rfl, rfl, Nat.le_refl _, fun _ _ _ => rfl⟩
theorem But.trans {g : Nat} {w w1 w2 : World} (h : But g w w1) (k : But g w1 w2) : But g w w2 := ⟨k.1.trans h.1, k.2.1.trans h.2.1, k.2.2.1.trans h.2.2.1, Nat.le_trans h.2.2.2.1 k.2.2.2.1, fun j hj hg => (k.2.2.2.2 j (Nat.lt_of_lt_of_le hj h.2.2.2.1) hg).trans (h.2.2.2.2 j hj hg)⟩
theorem But.of_below {g : Nat} {w w1 : World} (h : Below w.heap.size w w1) : But g w w1 := ⟨h.os, h.tape, h.output, h.size, fun j hj _ => h.block j hj⟩
theorem But.set (g i : Nat) (w : World) (v : Value) : But g w (w.setCell ⟨g, i, none⟩ v) := ⟨by simp [World.setCell], by simp [World.setCell], by simp [World.setCell], by simp [World.setCell], fun j hj hg => Below.heap_setCell w _ _ j hg⟩
theorem But.below {g : Nat} {w0 w w1 : World} (h : But g w w1) (hb : Below w0.heap.size w0 w) (hg : w0.heap.size ≤ g) : Below w0.heap.size w0 w1 := ⟨h.1.trans hb.os, h.2.1.trans hb.tape, h.2.2.1.trans hb.output, Nat.le_trans hb.size h.2.2.2.1, fun j hj => (h.2.2.2.2 j (Nat.lt_of_lt_of_le hj hb.size) (by omega)).trans (hb.block j hj)⟩

/-! spread, over a part of a row -/
set_option maxHeartbeats 1000000 in
set_option maxRecDepth 100000 in
theorem balance_spread_seg (k : Nat) (g : Nat) (pre l0 post : List Int) (c : Nat) (a1 : Int) (r : List Int) (w : World) (hs : Seg w g pre l0 post) (hl : l0.length ≤ 9223372036854775807) (h : balance_spread.f k l0 a1 = some r) :
  Calls Try.prog 45 #[.slice (some ⟨g, pre.length, none⟩) l0.length c, .int .i64 a1] w fun e w' => e = .returned (.tuple #[]) ∧ Seg w' g pre r post ∧ r.length = l0.length ∧ But g w w' := by
 have H' := Aside0.mk h
 clear h
 have HS := Aside0.mk hs
 have HW := Aside0.mk (But.refl g w)
 clear hs
 obtain ⟨n, hn⟩ : ∃ n, n = l0.length := ⟨_, rfl⟩
 go_enter Try.func45, Try.ntmps45
 go_wp2
 go_loopg [8] k (fun kq v8 wr => ∃ (i : Nat) (cur : List Int), i ≤ l0.length ∧ v8 = .int .i64 i ∧ Aside0 (cur.length = l0.length) ∧ Aside0 (balance_spread.l0 kq cur a1 (l0.length : Int) (i : Int) = some r) ∧ Aside0 (Seg wr g pre cur post) ∧ Aside0 (But g w wr))
 case atStart => exact ⟨0, l0, Nat.zero_le _, rfl, ⟨rfl⟩, H', HS, HW⟩
 case round =>
  clear H' HS HW
  obtain ⟨i, cur, hi, rfl, HL, HA, HS, HW⟩ := hrel
  cases gk with
  | zero => exact absurd HA.out (by simp [balance_spread.l0])
  | succ k1 =>
   have H := HA.out
   clear HA
   simp only [balance_spread.l0] at H
   by_cases hlt : i < l0.length
   ·rw [if_pos (by omega)] at H
    by_cases hz : (cur.length : Int) = 0
    ·rw [if_pos hz] at H; cases H
    ·rw [if_neg hz] at H
     have hll := HL.out
     have hcell : wr.cell? ⟨g, pre.length + i, none⟩ = some (.int .i64 (rd cur (i : Int))) := HS.out.cell (by omega)
     have hfz : wr.frozen? ⟨g, pre.length + i, none⟩ = false := HS.out.frozen _
     have hne : ((l0.length : Int) == 0) = false := by rw [beq_eq_false_iff_ne]; omega
     rw [hll] at H
     have step : ∀ v : Int, Aside0 (Seg (wr.setCell ⟨g, pre.length + i, none⟩ (.int .i64 v)) g pre (cur.set i v) post) := fun v => ⟨HS.out.set (by omega) v⟩
     have stepw : ∀ v : Value, Aside0 (But g w (wr.setCell ⟨g, pre.length + i, none⟩ v)) := fun v => ⟨HW.out.trans (But.set g _ wr v)⟩
     have hnum : ((i : Int) + 1) = ((i + 1 : Nat) : Int) := by omega
     have hwr : wrap64 ((i : Int) + 1) = ((i + 1 : Nat) : Int) := by rw [show wrap64 ((i : Int) + 1) = (i : Int) + 1 by unfold wrap64; omega]; omega
     rw [hwr] at H
     have HI := Aside0.mk (show i + 1 ≤ l0.length by omega)
     have HLS : ∀ v, Aside0 ((cur.set i v).length = l0.length) := fun v => ⟨by rw [List.length_set]; exact HL.out⟩
     by_cases c6 : (i : Int) < Int.tmod a1 (l0.length : Int)
     ·rw [if_pos c6, if_pos (by omega), if_pos (by omega), Int.toNat_natCast] at H
      have c6b : decide ((i : Int) < Int.tmod a1 (l0.length : Int)) = true := decide_eq_true c6
      have HH := Aside0.mk H
      clear H hz c6 hll hnum hwr
      go_wp2
      go_roundg k1
      case measure => omega
      case rel => exact ⟨i + 1, cur.set i _, HI.out, by go_num, HLS _, HH, step _, stepw _⟩
     ·rw [if_neg c6, if_pos (by omega), if_pos (by omega), Int.toNat_natCast] at H
      have c6b : decide ((i : Int) < Int.tmod a1 (l0.length : Int)) = false := decide_eq_false c6
      have HH := Aside0.mk H
      clear H hz c6 hll hnum hwr
      go_wp2
      go_roundg k1
      case measure => omega
      case rel => exact ⟨i + 1, cur.set i _, HI.out, by go_num, HLS _, HH, step _, stepw _⟩
   ·rw [if_neg (by omega)] at H
    have HH := Aside0.mk (Option.some.inj H)
    clear H
    go_wp2
    go_end0
    exact ⟨rfl, HH.out ▸ HS.out, HH.out ▸ HL.out, HW.out⟩
/-! needs: what a cell, a row of cells, all spans do to the widths -/
def bal_step (k : Nat) (p : S80 → Int) (span : Int) (out : List Int) (c : S80) : Option (List Int) :=
 if c.f1 = span then
  if 0 ≤ c.f0 ∧ 1 ≤ span ∧ c.f0 + span ≤ (out.length : Int) then
   (balance_sum.f k ((out.drop c.f0.toNat).take span.toNat)).bind fun t =>
    if wrap64 (p c - t) > 0 then (balance_spread.f k ((out.drop c.f0.toNat).take span.toNat) (wrap64 (p c - t))).bind fun q => some (out.take c.f0.toNat ++ (q ++ out.drop (c.f0.toNat + span.toNat)))
    else some out
  else none
 else some out
def bal_row (k : Nat) (p : S80 → Int) (span : Int) : List S80 → List Int → Option (List Int)
 | [], out => some out
 | c :: l, out => (bal_step k p span out c).bind fun o => bal_row k p span l o
def bal_spans (k : Nat) (p : S80 → Int) (l : List S80) : Nat → Int → List Int → Option (List Int)
 | 0, _, out => some out
 | d + 1, span, out => (bal_row k p span l out).bind fun o => bal_spans k p l d (span + 1) o
def bal_needs (k : Nat) (p : S80 → Int) (cols : Int) (l : List S80) : Option (List Int) := bal_spans k p l cols.toNat 1 (List.replicate cols.toNat 0)
theorem bal_step_mono (k : Nat) (p : S80 → Int) (span : Int) (out : List Int) (c : S80) : LeO (bal_step k p span out c) (bal_step (k + 1) p span out c) := by
 unfold bal_step
 refine LeO.ite (LeO.ite (LeO.bind (balance_sum.mono _ _) (fun t => LeO.ite (LeO.bind (balance_spread.mono _ _ _) (fun _ => LeO.refl _)) (LeO.refl _))) (LeO.refl _)) (LeO.refl _)
theorem bal_row_mono (k : Nat) (p : S80 → Int) (span : Int) (l : List S80) : ∀ out, LeO (bal_row k p span l out) (bal_row (k + 1) p span l out) := by
 induction l with
 | nil => intro out; exact LeO.refl _
 | cons c l ih => intro out; exact LeO.bind (bal_step_mono _ _ _ _ _) (fun o => ih o)
theorem bal_spans_mono (k : Nat) (p : S80 → Int) (l : List S80) (d : Nat) : ∀ span out, LeO (bal_spans k p l d span out) (bal_spans (k + 1) p l d span out) := by
 induction d with
 | zero => intro span out; exact LeO.refl _
 | succ d ih => intro span out; exact LeO.bind (bal_row_mono _ _ _ _ _) (fun o => ih _ o)
theorem bal_needs_mono (k : Nat) (p : S80 → Int) (cols : Int) (l : List S80) : LeO (bal_needs k p cols l) (bal_needs (k + 1) p cols l) := bal_spans_mono _ _ _ _ _ _
set_option maxHeartbeats 400000 in
set_option maxRecDepth 100000 in
theorem bal_num1 (x : S80) (w : World) : Calls Try.prog 43 #[.agg #[.int .i64 x.f0, .int .i64 x.f1, .int .i64 x.f2, .int .i64 x.f3]] w fun e w' => e = .returned (.int .i64 x.f2) ∧ Below w.heap.size w w' := by
 go_enter Try.func43, Try.ntmps43
 go_wp2
 go_ret
 exact ⟨rfl, (Below.refl _ _).alloc (Nat.le_refl _) _⟩
set_option maxHeartbeats 400000 in
set_option maxRecDepth 100000 in
theorem bal_num2 (x : S80) (w : World) : Calls Try.prog 44 #[.agg #[.int .i64 x.f0, .int .i64 x.f1, .int .i64 x.f2, .int .i64 x.f3]] w fun e w' => e = .returned (.int .i64 (mx x.f2 x.f3)) ∧ Below w.heap.size w w' := by
 by_cases hc : x.f2 < x.f3
 ·have hm : mx x.f2 x.f3 = x.f3 := by unfold mx; rw [if_pos hc]
  have HM := Aside0.mk hm
  clear hm
  go_enter Try.func44, Try.ntmps44
  go_wp2
  go_ret
  exact ⟨by rw [HM.out]; rfl, (Below.refl _ _).alloc (Nat.le_refl _) _⟩
 ·have hm : mx x.f2 x.f3 = x.f2 := by unfold mx; rw [if_neg hc]
  have HM := Aside0.mk hm
  clear hm
  go_enter Try.func44, Try.ntmps44
  go_wp2
  go_ret
  exact ⟨by rw [HM.out]; rfl, (Below.refl _ _).alloc (Nat.le_refl _) _⟩
theorem Seg.own {w : World} {g base : Nat} {cur : List Int} (h : Seg w g [] cur []) (hb : base ≤ g) (hl : cur.length ≤ maxLen) : Kd.R (Kd.int .i64) 3 w base (fun _ => True) (.slice (some ⟨g, 0, none⟩) cur.length cur.length) cur := by
 refine Kd.R_of_own ⟨by simp [encs], .inr ⟨g, cur.length, _, rfl, hb, h, Nat.le_refl _, hl, by simp [nums], ?_⟩⟩ (fun _ _ => trivial)
 simp only [List.nil_append, List.append_nil, Nat.mul_one]
 rw [List.take_of_length_le (by simp [nums])]
 rfl
def balance_needs_43.f (k : Nat) (a0 : Int) (l1 : List S80) : Option (List Int) := if 1 ≤ a0 ∧ a0 ≤ 64 then bal_needs k (fun x => x.f2) a0 l1 else none
theorem balance_needs_43.mono : ∀ a0 a1 k, LeO (balance_needs_43.f k a0 a1) (balance_needs_43.f (k + 1) a0 a1) := fun a0 a1 k => LeO.ite (bal_needs_mono _ _ _ _) (LeO.refl _)
set_option maxHeartbeats 2000000 in
set_option maxRecDepth 100000 in
theorem balance_needs_43.calls (k : Nat) (a0 : Int) (A1 : Option Addr) (c1 : Nat) (l1 : List S80) (r : List Int) (w : World) (hr1 : Kd.C k80 w A1 l1.length l1) (hc1 : l1.length ≤ c1) (h : balance_needs_43.f k a0 l1 = some r) :
  Calls Try.prog 42 #[.int .i64 a0, .slice A1 l1.length c1, .func (.func 43) #[] #[]] w fun e w' => ∃ v0_ : Value, e = .returned (v0_) ∧ Kd.R (Kd.int .i64) 3 w' w.heap.size (fun _ => True) v0_ r ∧ Below w.heap.size w w' := by
 have hgd : 1 ≤ a0 ∧ a0 ≤ 64 := by
  by_cases c : 1 ≤ a0 ∧ a0 ≤ 64
  ·exact c
  ·unfold balance_needs_43.f at h; rw [if_neg c] at h; cases h
 unfold balance_needs_43.f at h
 rw [if_pos hgd] at h
 obtain ⟨h0, h1⟩ := hgd
 have HR := Aside0.mk hr1
 have hl1 : l1.length ≤ 9223372036854775807 := hr1.2.1
 obtain ⟨n, rfl⟩ : ∃ n : Nat, a0 = (n : Int) := ⟨a0.toNat, by omega⟩
 have hnb : n ≤ 64 := by omega
 have hn1 : 1 ≤ n := by omega
 unfold bal_needs at h
 rw [Int.toNat_natCast] at h
 have H' := Aside0.mk h
 clear h hr1
 have hmk : ∀ W : World, (Instr.makeSlice 29 (.int .i64 (n : Int)) (.int .i64 (n : Int))).run Try.prog W = .ok (.slice (some ⟨W.heap.size, 0, none⟩) n n) (W.alloc (.cells (nums .i64 (List.replicate n 0)).toArray 3)) := by
  intro W
  obtain ⟨i0, hi, hzz⟩ := Option.map_eq_some_iff.1 info3
  simp only [Prod.mk.injEq] at hzz
  obtain ⟨hz0, hz1, hz2⟩ := hzz
  rw [run_make (P := Try.prog) (w := W) 29 3 i0 (.int .i64 0) Try.underlying29 hi hz0 .i64 .i64 (n : Int) (n : Int) (by omega) (by omega) (by rw [hz2]; omega) (by omega)]
  rw [hz1, Int.toNat_natCast, Nat.mul_one]
  congr 3
  apply Array.ext
  ·simp [madeCells, nums]
  ·intro j h1 h2
   simp [madeCells, nums, Value.cells, Nat.mod_one]
 have HZ := Aside0.mk (show Seg (w.alloc (.cells (nums .i64 (List.replicate n 0)).toArray 3)) w.heap.size [] (List.replicate n 0) [] from by
  have := blk_new w (.cells (nums .i64 (List.replicate n 0)).toArray 3 (0, 0))
  simpa [Seg] using this)
 have HB := Aside0.mk ((Below.refl w.heap.size w).alloc (Nat.le_refl _) (.cells (nums .i64 (List.replicate n 0)).toArray 3))
 go_enter Try.func42, Try.ntmps42
 go_wp2_with fail
 clear hmk
 generalize hW : (w.alloc (.cells (nums .i64 (List.replicate n 0)).toArray 3)) = W1 at HZ HB ⊢
 clear hW
 go_loopg [8] n (fun kq v8 wr => ∃ (s : Nat) (out : List Int), kq + s = n + 1 ∧ 1 ≤ s ∧ v8 = .int .i64 s ∧ Aside0 (bal_spans k (fun x => x.f2) l1 kq (s : Int) out = some r) ∧ Aside0 (out.length = n) ∧ Aside0 (Seg wr w.heap.size [] out []) ∧ Aside0 (Below w.heap.size w wr))
 case atStart => exact ⟨1, _, by omega, by omega, rfl, H', ⟨by simp⟩, HZ, HB⟩
 case round =>
  clear H' HZ HB
  obtain ⟨s, out, hks, hs1, rfl, HA, HL, HS, HB⟩ := hrel
  cases gk with
  | zero =>
   obtain rfl : s = n + 1 := by omega
   have HH := Aside0.mk (show out = r from Option.some.inj HA.out)
   have hll := HL.out
   go_wp2
   go_ret
   refine ⟨_, rfl, ?_, HB.out⟩
   rw [← HH.out]
   have := HS.out.own (base := w.heap.size) (Nat.le_refl _) (by unfold maxLen; omega)
   rw [hll] at this
   exact this
  | succ k1 =>
   obtain ⟨o, ho, hr⟩ := Option.bind_eq_some_iff.mp HA.out
   have HO := Aside0.mk ho
   have HN := Aside0.mk hr
   clear HA ho hr
   have hsn : s ≤ n := by omega
   go_wp2_with fail
   go_loopg [22] l1.length (fun kq v22 wr => ∃ (i : Nat) (out : List Int), kq + i = l1.length ∧ v22 = .int .i64 i ∧ Aside0 (bal_row k (fun x => x.f2) (s : Int) (l1.drop i) out = some o) ∧ Aside0 (out.length = n) ∧ Aside0 (Seg wr w.heap.size [] out []) ∧ Aside0 (Below w.heap.size w wr))
   case atStart => exact ⟨0, out, by omega, rfl, ⟨by simpa using HO.out⟩, HL, HS, HB⟩
   case round =>
    clear HO HL HS HB
    obtain ⟨i, out, hki, rfl, HA, HL, HS, HB⟩ := hrel
    cases gk with
    | zero =>
     have hi : i = l1.length := by omega
     have he : out = o := by
      have := HA.out
      rw [List.drop_of_length_le (by omega)] at this
      exact Option.some.inj this
     have HE := Aside0.mk he
     clear he HA
     go_wp2
     go_roundg k1
     case measure => omega
     case rel => exact ⟨s + 1, out, by omega, by omega, by go_num, ⟨by rw [HE.out]; exact HN.out⟩, HL, HS, HB⟩
    | succ k2 =>
     have hi : i < l1.length := by omega
     obtain ⟨ad, rfl, x0, x1, x2, x3⟩ := at_T80 (Kd.C_below HR.out HB.out) (i : Int) (by omega) (by omega)
     rw [Int.toNat_natCast] at x0 x1 x2 x3
     obtain ⟨c, hc⟩ : ∃ c, c = rd_T80 l1 (i : Int) := ⟨_, rfl⟩
     rw [← hc] at x0 x1 x2 x3
     have hd : l1.drop i = c :: l1.drop (i + 1) := by
      rw [List.drop_eq_getElem_cons hi, hc]
      simp [rd_T80, hi]
     have hA := HA.out
     rw [hd] at hA
     obtain ⟨o2, ho2, hr2⟩ := Option.bind_eq_some_iff.mp hA
     have HR2 := Aside0.mk hr2
     clear hA hd hc HA hr2
     have HSA : ∀ o, Aside0 (Seg (wr.alloc o) w.heap.size [] out []) := fun o => ⟨HS.out.below ((Below.refl _ _).alloc (Nat.le_refl _) o)⟩
     have HBA : ∀ o, Aside0 (Below w.heap.size w (wr.alloc o)) := fun o => ⟨below_alloc HB.out o⟩
     unfold bal_step at ho2
     by_cases hsp : c.f1 = (s : Int)
     ·rw [if_pos hsp] at ho2
      by_cases hg : 0 ≤ c.f0 ∧ 1 ≤ (s : Int) ∧ c.f0 + (s : Int) ≤ (out.length : Int)
      ·rw [if_pos hg] at ho2
       obtain ⟨hg0, _, hg2⟩ := hg
       have hll := HL.out
       obtain ⟨a, ha⟩ : ∃ a : Nat, c.f0 = (a : Int) := ⟨c.f0.toNat, by omega⟩
       rw [ha, Int.toNat_natCast, Int.toNat_natCast] at ho2
       have hle : a + s ≤ n := by omega
       have hsplit : out = out.take a ++ ((out.drop a).take s ++ out.drop (a + s)) := by
        rw [← List.drop_drop, List.take_append_drop, List.take_append_drop]
       have hpl : (out.take a).length = a := by rw [List.length_take]; omega
       have hcl : ((out.drop a).take s).length = s := by rw [List.length_take, List.length_drop]; omega
       obtain ⟨t, ht, ho3⟩ := Option.bind_eq_some_iff.mp ho2
       have HT := Aside0.mk ht
       have HO3 := Aside0.mk ho3
       have hsb : (c.f1 == (s : Int)) = true := beq_iff_eq.mpr hsp
       have hsc : (c.f1 != (s : Int)) = false := bne_eq_false_iff_eq.mpr hsp
       rw [ha] at x0
       have HF1 := Aside0.mk hsp
       have HF0 := Aside0.mk ha
       have HPL := Aside0.mk hpl
       have HCL := Aside0.mk hcl
       have HSP := Aside0.mk hsplit
       have hsum : ∀ W : World, Seg W w.heap.size (out.take a) ((out.drop a).take s) (out.drop (a + s)) → Calls Try.prog 39 #[.slice (some ⟨w.heap.size, a, none⟩) s (n - a)] W fun e w' => e = .returned (.int .i64 t) ∧ Drawn0 W w' := fun W hW => by
        have := balance_sum.calls k (some ⟨w.heap.size, (out.take a).length, none⟩) (n - a) ((out.drop a).take s) t W (hW.reads (by omega)) (by omega) ht
        rw [hpl, hcl] at this
        exact this
       have hspread : ∀ (W : World) (x : Int) (q : List Int), Seg W w.heap.size (out.take a) ((out.drop a).take s) (out.drop (a + s)) → balance_spread.f k ((out.drop a).take s) x = some q → Calls Try.prog 45 #[.slice (some ⟨w.heap.size, a, none⟩) s (n - a), .int .i64 x] W fun e w' => e = .returned (.tuple #[]) ∧ Seg w' w.heap.size (out.take a) q (out.drop (a + s)) ∧ q.length = s ∧ But w.heap.size W w' := fun W x q hW hq => by
        have := balance_spread_seg k w.heap.size (out.take a) ((out.drop a).take s) (out.drop (a + s)) (n - a) x q W hW (by omega) hq
        rw [hpl, hcl] at this
        exact this
       have hseg : ∀ W, Seg W w.heap.size [] out [] ↔ Seg W w.heap.size (out.take a) ((out.drop a).take s) (out.drop (a + s)) := fun W => by
        unfold Seg
        rw [← hsplit, List.nil_append, List.append_nil]
       have HSUM := Aside0.mk hsum
       have HSPR := Aside0.mk hspread
       have HSEG := Aside0.mk hseg
       clear ho2 hsp hg0 hg2 ht ho3 ha hpl hcl hsplit hsum hspread hseg
       by_cases hpos : wrap64 (c.f2 - t) > 0
       ·obtain ⟨q, hq, ho4⟩ : ∃ q, balance_spread.f k ((out.drop a).take s) (wrap64 (c.f2 - t)) = some q ∧ out.take a ++ (q ++ out.drop (a + s)) = o2 := by
         have := HO3.out
         rw [if_pos hpos] at this
         obtain ⟨q, hq, h2⟩ := Option.bind_eq_some_iff.mp this
         exact ⟨q, hq, Option.some.inj h2⟩
        have HQ := Aside0.mk hq
        have HO4 := Aside0.mk ho4
        have hpb : decide (0 < wrap64 (c.f2 - t)) = true := decide_eq_true hpos
        clear hq ho4 hpos
        go_wp2_with (first
         | (go_at_call 43; refine (bal_num1 ⟨(a : Int), c.f1, c.f2, c.f3⟩ _).mono ?_; rintro e w3 ⟨rfl, hb3⟩; have HS3 := Aside0.mk ((HSA _).out.below hb3); have HB3 := Aside0.mk (below_step (HBA _).out hb3); clear hb3)
         | (go_at_call 39; refine (HSUM.out _ ((HSEG.out _).mp HS3.out)).mono ?_; rintro e w4 ⟨rfl, hd⟩; have HS4 := Aside0.mk (HS3.out.below hd.below); have HB4 := Aside0.mk (below_step HB3.out hd.below); clear hd)
         | (go_at_call 45; refine (HSPR.out _ _ q ((HSEG.out _).mp HS4.out) HQ.out).mono ?_; rintro e w5 ⟨rfl, hs5, hq5, hb5⟩; have HS5 := Aside0.mk hs5; have HQ5 := Aside0.mk hq5; have HB5 := Aside0.mk (hb5.below HB4.out (Nat.le_refl _)); clear hs5 hq5 hb5))
        go_roundg k2
        case measure => omega
        case rel => exact ⟨i + 1, o2, by omega, by go_num, HR2, ⟨by rw [← HO4.out, List.length_append, List.length_append, HPL.out, HQ5.out, List.length_drop]; omega⟩, ⟨by have := HS5.out; unfold Seg at this ⊢; rw [List.nil_append, List.append_nil, ← HO4.out]; exact this⟩, HB5⟩
       ·have ho4 : out = o2 := by
         have := HO3.out
         rw [if_neg hpos] at this
         exact Option.some.inj this
        have HO4 := Aside0.mk ho4
        have hpb : decide (0 < wrap64 (c.f2 - t)) = false := decide_eq_false hpos
        clear ho4 hpos
        go_wp2_with (first
         | (go_at_call 43; refine (bal_num1 ⟨(a : Int), c.f1, c.f2, c.f3⟩ _).mono ?_; rintro e w3 ⟨rfl, hb3⟩; have HS3 := Aside0.mk ((HSA _).out.below hb3); have HB3 := Aside0.mk (below_step (HBA _).out hb3); clear hb3)
         | (go_at_call 39; refine (HSUM.out _ ((HSEG.out _).mp HS3.out)).mono ?_; rintro e w4 ⟨rfl, hd⟩; have HS4 := Aside0.mk (HS3.out.below hd.below); have HB4 := Aside0.mk (below_step HB3.out hd.below); clear hd))
        go_roundg k2
        case measure => omega
        case rel => exact ⟨i + 1, out, by omega, by go_num, ⟨by rw [HO4.out]; exact HR2.out⟩, HL, HS4, HB4⟩
      ·rw [if_neg hg] at ho2; cases ho2
     ·rw [if_neg hsp] at ho2
      have HO2 := Aside0.mk (show out = o2 from Option.some.inj ho2)
      have hsb : (c.f1 == (s : Int)) = false := beq_eq_false_iff_ne.mpr hsp
      have hsc : (c.f1 != (s : Int)) = true := bne_iff_ne.mpr hsp
      clear ho2 hsp
      go_wp2
      go_roundg k2
      case measure => omega
      case rel => exact ⟨i + 1, out, by omega, by go_num, ⟨by rw [HO2.out]; exact HR2.out⟩, HL, HSA _, HBA _⟩
def balance_needs_44.f (k : Nat) (a0 : Int) (l1 : List S80) : Option (List Int) := if 1 ≤ a0 ∧ a0 ≤ 64 then bal_needs k (fun x => mx x.f2 x.f3) a0 l1 else none
theorem balance_needs_44.mono : ∀ a0 a1 k, LeO (balance_needs_44.f k a0 a1) (balance_needs_44.f (k + 1) a0 a1) := fun a0 a1 k => LeO.ite (bal_needs_mono _ _ _ _) (LeO.refl _)
set_option maxHeartbeats 2000000 in
set_option maxRecDepth 100000 in
theorem balance_needs_44.calls (k : Nat) (a0 : Int) (A1 : Option Addr) (c1 : Nat) (l1 : List S80) (r : List Int) (w : World) (hr1 : Kd.C k80 w A1 l1.length l1) (hc1 : l1.length ≤ c1) (h : balance_needs_44.f k a0 l1 = some r) :
  Calls Try.prog 42 #[.int .i64 a0, .slice A1 l1.length c1, .func (.func 44) #[] #[]] w fun e w' => ∃ v0_ : Value, e = .returned (v0_) ∧ Kd.R (Kd.int .i64) 3 w' w.heap.size (fun _ => True) v0_ r ∧ Below w.heap.size w w' := by
 have hgd : 1 ≤ a0 ∧ a0 ≤ 64 := by
  by_cases c : 1 ≤ a0 ∧ a0 ≤ 64
  ·exact c
  ·unfold balance_needs_44.f at h; rw [if_neg c] at h; cases h
 unfold balance_needs_44.f at h
 rw [if_pos hgd] at h
 obtain ⟨h0, h1⟩ := hgd
 have HR := Aside0.mk hr1
 have hl1 : l1.length ≤ 9223372036854775807 := hr1.2.1
 obtain ⟨n, rfl⟩ : ∃ n : Nat, a0 = (n : Int) := ⟨a0.toNat, by omega⟩
 have hnb : n ≤ 64 := by omega
 have hn1 : 1 ≤ n := by omega
 unfold bal_needs at h
 rw [Int.toNat_natCast] at h
 have H' := Aside0.mk h
 clear h hr1
 have hmk : ∀ W : World, (Instr.makeSlice 29 (.int .i64 (n : Int)) (.int .i64 (n : Int))).run Try.prog W = .ok (.slice (some ⟨W.heap.size, 0, none⟩) n n) (W.alloc (.cells (nums .i64 (List.replicate n 0)).toArray 3)) := by
  intro W
  obtain ⟨i0, hi, hzz⟩ := Option.map_eq_some_iff.1 info3
  simp only [Prod.mk.injEq] at hzz
  obtain ⟨hz0, hz1, hz2⟩ := hzz
  rw [run_make (P := Try.prog) (w := W) 29 3 i0 (.int .i64 0) Try.underlying29 hi hz0 .i64 .i64 (n : Int) (n : Int) (by omega) (by omega) (by rw [hz2]; omega) (by omega)]
  rw [hz1, Int.toNat_natCast, Nat.mul_one]
  congr 3
  apply Array.ext
  ·simp [madeCells, nums]
  ·intro j h1 h2
   simp [madeCells, nums, Value.cells, Nat.mod_one]
 have HZ := Aside0.mk (show Seg (w.alloc (.cells (nums .i64 (List.replicate n 0)).toArray 3)) w.heap.size [] (List.replicate n 0) [] from by
  have := blk_new w (.cells (nums .i64 (List.replicate n 0)).toArray 3 (0, 0))
  simpa [Seg] using this)
 have HB := Aside0.mk ((Below.refl w.heap.size w).alloc (Nat.le_refl _) (.cells (nums .i64 (List.replicate n 0)).toArray 3))
 go_enter Try.func42, Try.ntmps42
 go_wp2_with fail
 clear hmk
 generalize hW : (w.alloc (.cells (nums .i64 (List.replicate n 0)).toArray 3)) = W1 at HZ HB ⊢
 clear hW
 go_loopg [8] n (fun kq v8 wr => ∃ (s : Nat) (out : List Int), kq + s = n + 1 ∧ 1 ≤ s ∧ v8 = .int .i64 s ∧ Aside0 (bal_spans k (fun x => mx x.f2 x.f3) l1 kq (s : Int) out = some r) ∧ Aside0 (out.length = n) ∧ Aside0 (Seg wr w.heap.size [] out []) ∧ Aside0 (Below w.heap.size w wr))
 case atStart => exact ⟨1, _, by omega, by omega, rfl, H', ⟨by simp⟩, HZ, HB⟩
 case round =>
  clear H' HZ HB
  obtain ⟨s, out, hks, hs1, rfl, HA, HL, HS, HB⟩ := hrel
  cases gk with
  | zero =>
   obtain rfl : s = n + 1 := by omega
   have HH := Aside0.mk (show out = r from Option.some.inj HA.out)
   have hll := HL.out
   go_wp2
   go_ret
   refine ⟨_, rfl, ?_, HB.out⟩
   rw [← HH.out]
   have := HS.out.own (base := w.heap.size) (Nat.le_refl _) (by unfold maxLen; omega)
   rw [hll] at this
   exact this
  | succ k1 =>
   obtain ⟨o, ho, hr⟩ := Option.bind_eq_some_iff.mp HA.out
   have HO := Aside0.mk ho
   have HN := Aside0.mk hr
   clear HA ho hr
   have hsn : s ≤ n := by omega
   go_wp2_with fail
   go_loopg [22] l1.length (fun kq v22 wr => ∃ (i : Nat) (out : List Int), kq + i = l1.length ∧ v22 = .int .i64 i ∧ Aside0 (bal_row k (fun x => mx x.f2 x.f3) (s : Int) (l1.drop i) out = some o) ∧ Aside0 (out.length = n) ∧ Aside0 (Seg wr w.heap.size [] out []) ∧ Aside0 (Below w.heap.size w wr))
   case atStart => exact ⟨0, out, by omega, rfl, ⟨by simpa using HO.out⟩, HL, HS, HB⟩
   case round =>
    clear HO HL HS HB
    obtain ⟨i, out, hki, rfl, HA, HL, HS, HB⟩ := hrel
    cases gk with
    | zero =>
     have hi : i = l1.length := by omega
     have he : out = o := by
      have := HA.out
      rw [List.drop_of_length_le (by omega)] at this
      exact Option.some.inj this
     have HE := Aside0.mk he
     clear he HA
     go_wp2
     go_roundg k1
     case measure => omega
     case rel => exact ⟨s + 1, out, by omega, by omega, by go_num, ⟨by rw [HE.out]; exact HN.out⟩, HL, HS, HB⟩
    | succ k2 =>
     have hi : i < l1.length := by omega
     obtain ⟨ad, rfl, x0, x1, x2, x3⟩ := at_T80 (Kd.C_below HR.out HB.out) (i : Int) (by omega) (by omega)
     rw [Int.toNat_natCast] at x0 x1 x2 x3
     obtain ⟨c, hc⟩ : ∃ c, c = rd_T80 l1 (i : Int) := ⟨_, rfl⟩
     rw [← hc] at x0 x1 x2 x3
     have hd : l1.drop i = c :: l1.drop (i + 1) := by
      rw [List.drop_eq_getElem_cons hi, hc]
      simp [rd_T80, hi]
     have hA := HA.out
     rw [hd] at hA
     obtain ⟨o2, ho2, hr2⟩ := Option.bind_eq_some_iff.mp hA
     have HR2 := Aside0.mk hr2
     clear hA hd hc HA hr2
     have HSA : ∀ o, Aside0 (Seg (wr.alloc o) w.heap.size [] out []) := fun o => ⟨HS.out.below ((Below.refl _ _).alloc (Nat.le_refl _) o)⟩
     have HBA : ∀ o, Aside0 (Below w.heap.size w (wr.alloc o)) := fun o => ⟨below_alloc HB.out o⟩
     unfold bal_step at ho2
     by_cases hsp : c.f1 = (s : Int)
     ·rw [if_pos hsp] at ho2
      by_cases hg : 0 ≤ c.f0 ∧ 1 ≤ (s : Int) ∧ c.f0 + (s : Int) ≤ (out.length : Int)
      ·rw [if_pos hg] at ho2
       obtain ⟨hg0, _, hg2⟩ := hg
       have hll := HL.out
       obtain ⟨a, ha⟩ : ∃ a : Nat, c.f0 = (a : Int) := ⟨c.f0.toNat, by omega⟩
       rw [ha, Int.toNat_natCast, Int.toNat_natCast] at ho2
       have hle : a + s ≤ n := by omega
       have hsplit : out = out.take a ++ ((out.drop a).take s ++ out.drop (a + s)) := by
        rw [← List.drop_drop, List.take_append_drop, List.take_append_drop]
       have hpl : (out.take a).length = a := by rw [List.length_take]; omega
       have hcl : ((out.drop a).take s).length = s := by rw [List.length_take, List.length_drop]; omega
       obtain ⟨t, ht, ho3⟩ := Option.bind_eq_some_iff.mp ho2
       have HT := Aside0.mk ht
       have HO3 := Aside0.mk ho3
       have hsb : (c.f1 == (s : Int)) = true := beq_iff_eq.mpr hsp
       have hsc : (c.f1 != (s : Int)) = false := bne_eq_false_iff_eq.mpr hsp
       rw [ha] at x0
       have HF1 := Aside0.mk hsp
       have HF0 := Aside0.mk ha
       have HPL := Aside0.mk hpl
       have HCL := Aside0.mk hcl
       have HSP := Aside0.mk hsplit
       have hsum : ∀ W : World, Seg W w.heap.size (out.take a) ((out.drop a).take s) (out.drop (a + s)) → Calls Try.prog 39 #[.slice (some ⟨w.heap.size, a, none⟩) s (n - a)] W fun e w' => e = .returned (.int .i64 t) ∧ Drawn0 W w' := fun W hW => by
        have := balance_sum.calls k (some ⟨w.heap.size, (out.take a).length, none⟩) (n - a) ((out.drop a).take s) t W (hW.reads (by omega)) (by omega) ht
        rw [hpl, hcl] at this
        exact this
       have hspread : ∀ (W : World) (x : Int) (q : List Int), Seg W w.heap.size (out.take a) ((out.drop a).take s) (out.drop (a + s)) → balance_spread.f k ((out.drop a).take s) x = some q → Calls Try.prog 45 #[.slice (some ⟨w.heap.size, a, none⟩) s (n - a), .int .i64 x] W fun e w' => e = .returned (.tuple #[]) ∧ Seg w' w.heap.size (out.take a) q (out.drop (a + s)) ∧ q.length = s ∧ But w.heap.size W w' := fun W x q hW hq => by
        have := balance_spread_seg k w.heap.size (out.take a) ((out.drop a).take s) (out.drop (a + s)) (n - a) x q W hW (by omega) hq
        rw [hpl, hcl] at this
        exact this
       have hseg : ∀ W, Seg W w.heap.size [] out [] ↔ Seg W w.heap.size (out.take a) ((out.drop a).take s) (out.drop (a + s)) := fun W => by
        unfold Seg
        rw [← hsplit, List.nil_append, List.append_nil]
       have HSUM := Aside0.mk hsum
       have HSPR := Aside0.mk hspread
       have HSEG := Aside0.mk hseg
       clear ho2 hsp hg0 hg2 ht ho3 ha hpl hcl hsplit hsum hspread hseg
       by_cases hpos : wrap64 (mx c.f2 c.f3 - t) > 0
       ·obtain ⟨q, hq, ho4⟩ : ∃ q, balance_spread.f k ((out.drop a).take s) (wrap64 (mx c.f2 c.f3 - t)) = some q ∧ out.take a ++ (q ++ out.drop (a + s)) = o2 := by
         have := HO3.out
         rw [if_pos hpos] at this
         obtain ⟨q, hq, h2⟩ := Option.bind_eq_some_iff.mp this
         exact ⟨q, hq, Option.some.inj h2⟩
        have HQ := Aside0.mk hq
        have HO4 := Aside0.mk ho4
        have hpb : decide (0 < wrap64 (mx c.f2 c.f3 - t)) = true := decide_eq_true hpos
        clear hq ho4 hpos
        go_wp2_with (first
         | (go_at_call 44; refine (bal_num2 ⟨(a : Int), c.f1, c.f2, c.f3⟩ _).mono ?_; rintro e w3 ⟨rfl, hb3⟩; have HS3 := Aside0.mk ((HSA _).out.below hb3); have HB3 := Aside0.mk (below_step (HBA _).out hb3); clear hb3)
         | (go_at_call 39; refine (HSUM.out _ ((HSEG.out _).mp HS3.out)).mono ?_; rintro e w4 ⟨rfl, hd⟩; have HS4 := Aside0.mk (HS3.out.below hd.below); have HB4 := Aside0.mk (below_step HB3.out hd.below); clear hd)
         | (go_at_call 45; refine (HSPR.out _ _ q ((HSEG.out _).mp HS4.out) HQ.out).mono ?_; rintro e w5 ⟨rfl, hs5, hq5, hb5⟩; have HS5 := Aside0.mk hs5; have HQ5 := Aside0.mk hq5; have HB5 := Aside0.mk (hb5.below HB4.out (Nat.le_refl _)); clear hs5 hq5 hb5))
        go_roundg k2
        case measure => omega
        case rel => exact ⟨i + 1, o2, by omega, by go_num, HR2, ⟨by rw [← HO4.out, List.length_append, List.length_append, HPL.out, HQ5.out, List.length_drop]; omega⟩, ⟨by have := HS5.out; unfold Seg at this ⊢; rw [List.nil_append, List.append_nil, ← HO4.out]; exact this⟩, HB5⟩
       ·have ho4 : out = o2 := by
         have := HO3.out
         rw [if_neg hpos] at this
         exact Option.some.inj this
        have HO4 := Aside0.mk ho4
        have hpb : decide (0 < wrap64 (mx c.f2 c.f3 - t)) = false := decide_eq_false hpos
        clear ho4 hpos
        go_wp2_with (first
         | (go_at_call 44; refine (bal_num2 ⟨(a : Int), c.f1, c.f2, c.f3⟩ _).mono ?_; rintro e w3 ⟨rfl, hb3⟩; have HS3 := Aside0.mk ((HSA _).out.below hb3); have HB3 := Aside0.mk (below_step (HBA _).out hb3); clear hb3)
         | (go_at_call 39; refine (HSUM.out _ ((HSEG.out _).mp HS3.out)).mono ?_; rintro e w4 ⟨rfl, hd⟩; have HS4 := Aside0.mk (HS3.out.below hd.below); have HB4 := Aside0.mk (below_step HB3.out hd.below); clear hd))
        go_roundg k2
        case measure => omega
        case rel => exact ⟨i + 1, out, by omega, by go_num, ⟨by rw [HO4.out]; exact HR2.out⟩, HL, HS4, HB4⟩
      ·rw [if_neg hg] at ho2; cases ho2
     ·rw [if_neg hsp] at ho2
      have HO2 := Aside0.mk (show out = o2 from Option.some.inj ho2)
      have hsb : (c.f1 == (s : Int)) = false := beq_eq_false_iff_ne.mpr hsp
      have hsc : (c.f1 != (s : Int)) = true := bne_iff_ne.mpr hsp
      clear ho2 hsp
      go_wp2
      go_roundg k2
      case measure => omega
      case rel => exact ⟨i + 1, out, by omega, by go_num, ⟨by rw [HO2.out]; exact HR2.out⟩, HL, HSA _, HBA _⟩

/-! ### balance_Needs: function 29 -/
def balance_Needs.l0 : Nat → List Int → List Int → Int → Int → Option (List Int × List Int × Int)
 | 0, _, _, _, _ => none
 | k + 1, x8, x9, x24, x25 => if x25 < x24 then (if 0 ≤ x25 then (if x25 < (x9.length : Int) then (if x25 < (x8.length : Int) then (balance_Needs.l0 k x8 (x9.set (x25 : Int).toNat (mx (rd x9 x25) (rd x8 x25))) x24 (wrap64 (x25 + 1))) else (none)) else (none)) else (none)) else (some (x8, x9, 0))
def balance_Needs.f (k : Nat) (a0 : Int) (l1 : List (S80)) : Option (List Int × List Int × Int) := (balance_Check.f k a0 l1).bind fun t110 => (if t110 = 0 then ((balance_needs_43.f k a0 l1).bind fun t111 => ((balance_needs_44.f k a0 l1).bind fun t114 => (balance_Needs.l0 k t111 t114 (t114.length : Int) 0))) else (some (([] : List Int), ([] : List Int), t110)))
theorem balance_Needs.mono_l : ∀ k, (∀ y0 y1 y2 y3, LeO (balance_Needs.l0 k y0 y1 y2 y3) (balance_Needs.l0 (k + 1) y0 y1 y2 y3))
 | 0 => fun _ _ _ _ r h => by simp [balance_Needs.l0] at h
 | k + 1 => by
  have ih0 := balance_Needs.mono_l k
  ·intro y0 y1 y2 y3
   unfold balance_Needs.l0
   repeat' first
   | (with_reducible exact ih0 _ _ _ _)
   | (with_reducible exact balance_Check.mono _ _ _)
   | (with_reducible exact balance_needs_43.mono _ _ _)
   | (with_reducible exact balance_needs_44.mono _ _ _)
   | (with_reducible exact LeO.refl _)
   | (with_reducible exact LeO.none _)
   | (with_reducible refine LeO.ite ?_ ?_)
   | (with_reducible refine LeO.bind ?_ (fun _ => ?_))
   | exact ih0 _ _ _ _
   | exact balance_Check.mono _ _ _
   | exact balance_needs_43.mono _ _ _
   | exact balance_needs_44.mono _ _ _
   | exact LeO.none _
   | refine LeO.ite ?_ ?_
   | refine LeO.bind ?_ (fun _ => ?_)
theorem balance_Needs.mono : ∀ a0 a1 k, LeO (balance_Needs.f k a0 a1) (balance_Needs.f (k + 1) a0 a1) := by
 intro a0 a1 k
 have ih0 := balance_Needs.mono_l k
 unfold balance_Needs.f
 repeat' first
   | (with_reducible exact ih0 _ _ _ _)
   | (with_reducible exact balance_Check.mono _ _ _)
   | (with_reducible exact balance_needs_43.mono _ _ _)
   | (with_reducible exact balance_needs_44.mono _ _ _)
   | (with_reducible exact LeO.refl _)
   | (with_reducible exact LeO.none _)
   | (with_reducible refine LeO.ite ?_ ?_)
   | (with_reducible refine LeO.bind ?_ (fun _ => ?_))
   | exact ih0 _ _ _ _
   | exact balance_Check.mono _ _ _
   | exact balance_needs_43.mono _ _ _
   | exact balance_needs_44.mono _ _ _
   | exact LeO.none _
   | refine LeO.ite ?_ ?_
   | refine LeO.bind ?_ (fun _ => ?_)
def balance_Needs.T9 : Bool × List (List Nat × List Nat) := (true, [([], []), ([], []), ([], []), ([], []), ([2, 3], [2, 3]), ([4], [4]), ([], []), ([], []), ([6, 7], [6, 7]), ([8], [8]), ([5, 9], [5, 9]), ([0, 1, 0, 1, 2, 3, 4, 5, 6, 7, 8, 9, 10], [0, 1]), ([11, 10, 0, 1, 2, 3, 4, 5, 6, 7, 8, 9, 10], [10, 11])])
def balance_Needs.B9 : List Nat := [0, 0, 0, 0, 12, 28, 0, 0, 192, 448, 1020, 2047, 4095]
theorem balance_Needs.tab9 : rtab .any (opsOf Try.f29 9) = balance_Needs.T9 := by kernel_rfl
theorem balance_Needs.bits9 : waitsOk balance_Needs.T9.2 balance_Needs.B9 = true := by kernel_rfl
set_option maxHeartbeats 8000000 in
set_option maxRecDepth 100000 in
theorem balance_Needs.calls (k : Nat) (a0 : Int) (A1 : Option Addr) (c1 : Nat) (l1 : List (S80)) (r1 : List Int) (r2 : List Int) (r3 : Int) (w : World) (hr1 : Kd.C k80 w A1 l1.length l1) (hc1 : l1.length ≤ c1) (h : balance_Needs.f k a0 l1 = some (r1, r2, r3)) :
  Calls Try.prog 29 #[.int .i64 a0, .slice A1 l1.length c1] w fun e w' => ∃ v0_ v1_ : Value, e = .returned (.tuple #[v0_, v1_, .int .i64 r3]) ∧ Kd.R (Kd.int .i64) 3 w' w.heap.size (fun k_ => some k_ ≠ (v1_ : Value).ownBlock) v0_ r1 ∧ Kd.R (Kd.int .i64) 3 w' w.heap.size (fun k_ => some k_ ≠ (v0_ : Value).ownBlock) v1_ r2 ∧ Below w.heap.size w w' := by
 have HR1 := Aside0.mk hr1
 have HC1 := Aside0.mk hc1
 clear hr1 hc1
 have HB := Aside0.mk (Below.refl w.heap.size w)
 have H : ((balance_Check.f k a0 l1).bind fun t110 => (if t110 = 0 then ((balance_needs_43.f k a0 l1).bind fun t111 => ((balance_needs_44.f k a0 l1).bind fun t114 => (balance_Needs.l0 k t111 t114 (t114.length : Int) 0))) else (some (([] : List Int), ([] : List Int), t110)))) = some (r1, r2, r3) := h
 clear h
 replace H := Option.bind_eq_some_iff.mp H
 obtain ⟨t110, A30, H⟩ := H
 replace H : (if t110 = 0 then ((balance_needs_43.f k a0 l1).bind fun t111 => ((balance_needs_44.f k a0 l1).bind fun t114 => (balance_Needs.l0 k t111 t114 (t114.length : Int) 0))) else (some (([] : List Int), ([] : List Int), t110))) = some (r1, r2, r3) := H
 have A3 := Aside0.mk A30
 clear A30
 by_cases c4 : t110 = 0
 ·rw [if_pos c4] at H
  have c4b0 : (t110 == 0) = true := beq_iff_eq.mpr c4
  have c4b1 : (t110 != 0) = false := bne_eq_false_iff_eq.mpr c4
  clear c4
  replace H := Option.bind_eq_some_iff.mp H
  obtain ⟨t111, A50, H⟩ := H
  replace H : ((balance_needs_44.f k a0 l1).bind fun t114 => (balance_Needs.l0 k t111 t114 (t114.length : Int) 0)) = some (r1, r2, r3) := H
  have A5 := Aside0.mk A50
  clear A50
  replace H := Option.bind_eq_some_iff.mp H
  obtain ⟨t114, A60, H⟩ := H
  replace H : (balance_Needs.l0 k t111 t114 (t114.length : Int) 0) = some (r1, r2, r3) := H
  have A6 := Aside0.mk A60
  clear A60
  have H' := Aside0.mk H
  clear H
  go_enter Try.func29, Try.ntmps29
  go_wp2_with (first | ((with_reducible refine gate_callee (f := 41) rfl ?_); refine goesL_ (some 13) rfl rfl Try.func41 (by kernel_rfl) rfl #[.int .i64 a0, .slice A1 l1.length c1] rfl (by (try simp only [List.map_toArray, List.map_cons, List.map_nil]); first | done | rfl | (simp only [List.length_drop, List.length_take]; rfl)) ?_; (with_reducible refine (balance_Check.calls k a0 _ _ l1 t110 _ ?side1 ?side2 A3.out).mono ?_); (case side1 => repeat (first | exact HR1.out | (with_reducible refine Kd.C_alloc ?_ _) | (with_reducible refine Kd.C_drewN ?_ _) | (with_reducible refine Kd.C_drew ?_))); (case side2 => exact HC1.out); rintro e w7 ⟨rfl, hb⟩; refine ⟨_, rfl, ?_⟩; have n0_ := Aside0.mk (below_step (by repeat (first | (with_reducible first | exact HB.out | apply below_alloc | apply pw_below_drewN | apply below_drew1) | exact HB.out)) hb); clear HB; have HB := n0_; clear n0_; (try clear hb); (try clear hb2); (try clear hk); (try clear hi)) | ((with_reducible refine gate_callee (f := 42) rfl ?_); refine goesL_ (some 19) rfl rfl Try.func42 (by kernel_rfl) rfl #[.int .i64 a0, .slice A1 l1.length c1, .func (.func 43) #[] #[]] rfl (by (try simp only [List.map_toArray, List.map_cons, List.map_nil]); first | done | rfl | (simp only [List.length_drop, List.length_take]; rfl)) ?_; (with_reducible refine (balance_needs_43.calls k a0 _ _ l1 t111 _ ?side1 ?side2 A5.out).mono ?_); (case side1 => repeat (first | exact (Kd.C_below HR1.out HB.out) | (with_reducible refine Kd.C_alloc ?_ _) | (with_reducible refine Kd.C_drewN ?_ _) | (with_reducible refine Kd.C_drew ?_))); (case side2 => exact HC1.out); rintro e w8 ⟨v112, rfl, ho0, hb⟩; refine ⟨_, rfl, ?_⟩; have n0_ := Aside0.mk (Kd.R_lower ho0 (below_size (by repeat (first | (with_reducible first | exact HB.out | apply below_alloc | apply pw_below_drewN | apply below_drew1) | exact HB.out)))); have n1_ := Aside0.mk (below_step (by repeat (first | (with_reducible first | exact HB.out | apply below_alloc | apply pw_below_drewN | apply below_drew1) | exact HB.out)) hb); clear HB; have HO113 := n0_; have HB := n1_; clear n0_ n1_; (try clear hb); (try clear hb2); (try clear hk); (try clear hi); (try clear ho0)) | ((with_reducible refine gate_callee (f := 42) rfl ?_); refine goesL_ (some 22) rfl rfl Try.func42 (by kernel_rfl) rfl #[.int .i64 a0, .slice A1 l1.length c1, .func (.func 44) #[] #[]] rfl (by (try simp only [List.map_toArray, List.map_cons, List.map_nil]); first | done | rfl | (simp only [List.length_drop, List.length_take]; rfl)) ?_; (with_reducible refine (balance_needs_44.calls k a0 _ _ l1 t114 _ ?side1 ?side2 A6.out).mono ?_); (case side1 => repeat (first | exact (Kd.C_below HR1.out HB.out) | (with_reducible refine Kd.C_alloc ?_ _) | (with_reducible refine Kd.C_drewN ?_ _) | (with_reducible refine Kd.C_drew ?_))); (case side2 => exact HC1.out); rintro e w9 ⟨v115, rfl, ho0, hb⟩; refine ⟨_, rfl, ?_⟩; have n0_ := Aside0.mk (Kd.R_elder' (by (with_reducible repeat (first | apply Kd.R_alloc | apply Kd.R_drewN | apply Kd.R_drew)); exact HO113.out) (Kd.R_base ho0) hb); have n1_ := Aside0.mk (Kd.R_lower (Kd.R_new' ho0 (Kd.R_lt (by (with_reducible repeat (first | apply Kd.R_alloc | apply Kd.R_drewN | apply Kd.R_drew)); exact HO113.out))) (below_size (by repeat (first | (with_reducible first | exact HB.out | apply below_alloc | apply pw_below_drewN | apply below_drew1) | exact HB.out)))); have n2_ := Aside0.mk (below_step (by repeat (first | (with_reducible first | exact HB.out | apply below_alloc | apply pw_below_drewN | apply below_drew1) | exact HB.out)) hb); clear HO113; clear HB; have HO113 := n0_; have HO116 := n1_; have HB := n2_; clear n0_ n1_ n2_; (try clear hb); (try clear hb2); (try clear hk); (try clear hi); (try clear ho0); obtain ⟨Ao10, co10, eo10⟩ := Kd.R_slice HO116.out; subst eo10))
  go_loopg [25] k (fun kq v25 w' => ∃ (x9_1 : List Int) (x25_1 : Int), v25 = .int .i64 x25_1 ∧ Aside0 (balance_Needs.l0 kq t111 x9_1 (t114.length : Int) x25_1 = some (r1, r2, r3)) ∧ Aside0 (kq ≤ k) ∧ Aside0 (Kd.R (Kd.int .i64) 3 w' w.heap.size (fun k_ => some k_ ≠ ((.slice Ao10 t114.length co10) : Value).ownBlock) v112 t111) ∧ Aside0 (Kd.R (Kd.int .i64) 3 w' w.heap.size (fun k_ => some k_ ≠ (v112 : Value).ownBlock) (.slice Ao10 t114.length co10) x9_1) ∧ Aside0 (Below w.heap.size w w'))
  case atStart => exact ⟨(t114), (0), (by first | rfl | (simp; done) | (simp [*]; done)), H', ⟨Nat.le_refl _⟩, ⟨by (with_reducible repeat (first | apply Kd.R_alloc | apply Kd.R_drewN | apply Kd.R_drew)); exact Kd.R_mono HO113.out (fun _ hk => hk.2)⟩, ⟨by (with_reducible repeat (first | apply Kd.R_alloc | apply Kd.R_drewN | apply Kd.R_drew)); exact Kd.R_mono HO116.out (fun _ hk => hk.2)⟩, ⟨by repeat (first | (with_reducible first | exact HB.out | apply below_alloc | apply pw_below_drewN | apply below_drew1) | exact HB.out)⟩⟩
  case round =>
   clear H'
   try clear c1
   try clear c2
   try clear p2
   try clear c4
   try clear c4b0
   try clear c4b1
   try clear c9
   obtain ⟨x9_1, x25_1, rfl, HA, HK1, HO_8, HO_9, HB⟩ := hrel
   have hl9_1 := (Kd.R_reads' HO_9.out).1
   rw [hl9_1] at HO_9
   (try simp only [hl9_1])
   (try simp only [hl9_1] at HO_8)
   cases gk with
   | zero => exact absurd HA.out (by simp [balance_Needs.l0])
   | succ k1 =>
    have H := HA.out
    clear HA
    simp only [balance_Needs.l0] at H
    by_cases c11 : x25_1 < (t114.length : Int)
    ·rw [if_pos c11] at H
     have c11b0 : decide (x25_1 < (t114.length : Int)) = true := decide_eq_true c11
     (try simp only [hl9_1] at c11b0)
     clear c11
     by_cases c12 : 0 ≤ x25_1
     ·rw [if_pos c12] at H
      have c12b0 : decide (0 ≤ x25_1) = true := decide_eq_true c12
      (try simp only [hl9_1] at c12b0)
      clear c12
      by_cases c13 : x25_1 < (x9_1.length : Int)
      ·rw [if_pos c13] at H
       have c13b0 : decide (x25_1 < (x9_1.length : Int)) = true := decide_eq_true c13
       (try simp only [hl9_1] at c13b0)
       clear c13
       by_cases c14 : x25_1 < (t111.length : Int)
       ·rw [if_pos c14] at H
        have c14b0 : decide (x25_1 < (t111.length : Int)) = true := decide_eq_true c14
        (try simp only [hl9_1] at c14b0)
        clear c14
        obtain ⟨ji15, hji15⟩ : ∃ j_ : Int, (mx (rd x9_1 x25_1) (rd t111 x25_1)) = j_ := ⟨_, rfl⟩
        replace H : (balance_Needs.l0 k1 t111 (x9_1.set (x25_1 : Int).toNat (ji15)) (t114.length : Int) (wrap64 (x25_1 + 1))) = some (r1, r2, r3) := by first | (rw [hji15] at H; exact H) | (simp only [hji15] at H ⊢; exact H)
        have hji15_ : (if (rd x9_1 x25_1) < (rd t111 x25_1) then (rd t111 x25_1) else (rd x9_1 x25_1)) = ji15 := hji15
        obtain ⟨y119, hy119⟩ : ∃ y_ : List Int, y_ = (x9_1.set (x25_1 : Int).toNat (ji15)) := ⟨_, rfl⟩
        replace H : (balance_Needs.l0 k1 t111 y119 (t114.length : Int) (wrap64 (x25_1 + 1))) = some (r1, r2, r3) := by first | (rw [hy119]; with_reducible exact H) | (have H2_ := (Option.bind_some _ _).symm.trans H; rw [hy119]; with_reducible exact H2_) | (have H2_ := (Option.bind_some _ _).symm.trans H; with_reducible exact H2_) | with_reducible exact H | (rw [hy119]; exact H) | exact H
        have Ny119 := Aside0.mk hy119
        clear hy119
        have H' := Aside0.mk H
        clear H
        try go_wp2
        have n0_ := Aside0.mk (Kd.R_drew HO_8.out)
        have n1_ := Aside0.mk (Kd.R_drew HO_9.out)
        have n2_ := Aside0.mk (below_drew1 HB.out)
        clear HO_8
        clear HO_9
        clear HB
        have HO_8 := n0_
        have HO_9 := n1_
        have HB := n2_
        clear n0_ n1_ n2_
        have p117 : 0 ≤ (x25_1 : Int) := of_decide_eq_true (by first | (with_reducible assumption) | assumption)
        have q117 : x25_1 < (x9_1.length : Int) := of_decide_eq_true (by first | (with_reducible assumption) | assumption)
        obtain ⟨ad117, e117, hx117_0⟩ := Kd.at_int (Kd.R_reads' HO_9.out).2.2 x25_1 p117 q117
        cases e117
        replace p117 := eq_true p117
        replace q117 := eq_true q117
        obtain ⟨Ao18, co18, eo18⟩ := Kd.R_slice HO_8.out
        (first | subst eo18 | (injection eo18 with f1_ f2_ f3_; have f4_ := f1_.symm; have f5_ := f3_.symm; clear f1_ f2_ f3_; subst f4_; subst f5_))
        have p118 : 0 ≤ (x25_1 : Int) := of_decide_eq_true (by first | (with_reducible assumption) | assumption)
        have q118 : x25_1 < (t111.length : Int) := of_decide_eq_true (by first | (with_reducible assumption) | assumption)
        obtain ⟨ad118, e118, hx118_0⟩ := Kd.at_int (Kd.R_reads' HO_8.out).2.2 x25_1 p118 q118
        cases e118
        replace p118 := eq_true p118
        replace q118 := eq_true q118
        have p16 : 0 ≤ (x25_1 : Int) := of_decide_eq_true (by first | (with_reducible assumption) | assumption)
        have q16 : (x25_1 : Int) < ((x9_1.length : Int) : Int) := of_decide_eq_true (by first | (with_reducible assumption) | assumption)
        obtain ⟨go16, co16, eo16, gb16, gl16, cl16, HG16⟩ := Kd.R_form HO_9.out (by omega)
        (first | cases eo16 | (injection eo16 with ea_ en_ ec_; (first | subst ea_ | (injection ea_ with ea_; subst ea_)); subst ec_; clear en_))
        have GB16 := Aside0.mk gb16
        have GG16 := Aside0.mk HG16
        clear gb16 gl16 HG16
        (first | simp only [add_plain] at hx117_0 | skip)
        obtain ⟨hx16_0, hf16_0⟩ := Kd.R_celln 0 HO_9.out (x25_1 : Int) p16 q16
        replace p16 := eq_true p16
        replace q16 := eq_true q16
        have HP19 := Kd.R_putn HO_9.out (x25_1 : Int) ji15
        rw [← Ny119.out] at HP19
        have HQ19 := Aside0.mk HP19
        clear HP19
        refine start_ (n := 13) (S := fun w' => w'.cell? ⟨go16, (x25_1).toNat, none⟩ = some (.int .i64 (rd x9_1 x25_1)) ∧ w'.cell? (ad118.add (x25_1).toNat) = some (.int .i64 (rd t111 x25_1))) (ds := [12]) #[false, false, false, false, false, false, false, false, false, false, false, false, false] (by kernel_rfl) rfl rfl ⟨hx117_0, hx118_0⟩ (fun hHeld => ?_); refine with_tabW balance_Needs.tab9 balance_Needs.bits9 (fun HT_ HW_ => ?_)
        generalize wr.drew = w17 at HO_8 HO_9 HB GG16 HQ19 hf16_0 hx117_0 hx118_0 hx16_0 hHeld ⊢
        refine pure_ (i := 0) (N := some 28) (v := ?_) (a' := ?_) #[true, false, false, false, false, false, false, false, false, false, false, false, false] rfl rfl (any_of HT_.out (by kernel_rfl)) (fun _ _ _ h => h) (Or.inl ⟨by rfl, ?_⟩) ?_ ?_
        rotate_left
        ·intro w'
         go_simp
         with_reducible rfl
        rotate_left
        ·simp only [Act.put, List.setIfInBounds_toArray, List.set_cons_zero, List.set_cons_succ, i64_w, i32_w]
         rfl
        refine pure_ (i := 1) (N := some 29) (v := ?_) (a' := ?_) #[true, true, false, false, false, false, false, false, false, false, false, false, false] rfl rfl (any_of HT_.out (by kernel_rfl)) (fun _ _ _ h => h) (Or.inl ⟨by rfl, ?_⟩) ?_ ?_
        rotate_left
        ·intro w'
         go_simp
         with_reducible rfl
        rotate_left
        ·simp only [Act.put, List.setIfInBounds_toArray, List.set_cons_zero, List.set_cons_succ, i64_w, i32_w]
         rfl
        refine pure_ (i := 2) (N := some 30) (v := ?_) (a' := ?_) #[true, true, true, false, false, false, false, false, false, false, false, false, false] rfl rfl (any_of HT_.out (by kernel_rfl)) (fun _ _ _ h => h) (Or.inl ⟨by rfl, ?_⟩) ?_ ?_
        rotate_left
        ·intro w'
         go_simp
         with_reducible rfl
        rotate_left
        ·simp only [Act.put, List.setIfInBounds_toArray, List.set_cons_zero, List.set_cons_succ, i64_w, i32_w]
         rfl
        refine pure_ (i := 3) (N := some 31) (v := ?_) (a' := ?_) #[true, true, true, true, false, false, false, false, false, false, false, false, false] rfl rfl (any_of HT_.out (by kernel_rfl)) (fun _ _ _ h => h) (Or.inl ⟨by rfl, ?_⟩) ?_ ?_
        rotate_left
        ·intro w'
         go_simp
         with_reducible rfl
        rotate_left
        ·simp only [Act.put, List.setIfInBounds_toArray, List.set_cons_zero, List.set_cons_succ, i64_w, i32_w]
         rfl
        refine pure_ (i := 4) (N := some 32) (v := ?_) (a' := ?_) #[true, true, true, true, true, false, false, false, false, false, false, false, false] rfl rfl (any_of HT_.out (by kernel_rfl)) (fun _ _ _ h => h) (Or.inl ⟨by rfl, ?_⟩) ?_ ?_
        rotate_left
        ·intro w'
         go_simp
         with_reducible rfl
        rotate_left
        ·simp only [Act.put, List.setIfInBounds_toArray, List.set_cons_zero, List.set_cons_succ, i64_w, i32_w]
         rfl
        refine pure_ (i := 6) (N := some 34) (v := ?_) (a' := ?_) #[true, true, true, true, true, false, true, false, false, false, false, false, false] rfl rfl (any_of HT_.out (by kernel_rfl)) (fun _ _ _ h => h) (Or.inl ⟨by rfl, ?_⟩) ?_ ?_
        rotate_left
        ·intro w'
         go_simp
         with_reducible rfl
        rotate_left
        ·simp only [Act.put, List.setIfInBounds_toArray, List.set_cons_zero, List.set_cons_succ, i64_w, i32_w]
         rfl
        refine pure_ (i := 7) (N := some 35) (v := ?_) (a' := ?_) #[true, true, true, true, true, false, true, true, false, false, false, false, false] rfl rfl (any_of HT_.out (by kernel_rfl)) (fun _ _ _ h => h) (Or.inl ⟨by rfl, ?_⟩) ?_ ?_
        rotate_left
        ·intro w'
         go_simp
         with_reducible rfl
        rotate_left
        ·simp only [Act.put, List.setIfInBounds_toArray, List.set_cons_zero, List.set_cons_succ, i64_w, i32_w]
         rfl
        refine pure_ (i := 8) (N := some 36) (v := ?_) (a' := ?_) #[true, true, true, true, true, false, true, true, true, false, false, false, false] rfl rfl (any_of HT_.out (by kernel_rfl)) (fun _ _ _ h => h) (Or.inl ⟨by rfl, ?_⟩) ?_ ?_
        rotate_left
        ·intro w'
         go_simp
         with_reducible rfl
        rotate_left
        ·simp only [Act.put, List.setIfInBounds_toArray, List.set_cons_zero, List.set_cons_succ, i64_w, i32_w]
         rfl
        refine take_ (i := 5) (N := some 33) (v := ?_) (a' := ?_) #[true, true, true, true, true, true, true, true, true, false, false, false, false] rfl rfl (take_ofW HT_.out HW_.out (by kernel_rfl)) (fun _ _ _ h => h) (Or.inl ⟨by rfl, ?_⟩) hHeld ?_ ?_
        rotate_left
        ·rintro w' ⟨s0, s1⟩
         go_simp
         with_reducible rfl
        rotate_left
        ·simp only [Act.put, List.setIfInBounds_toArray, List.set_cons_zero, List.set_cons_succ, i64_w, i32_w]
         rfl
        refine take_ (i := 9) (N := some 37) (v := ?_) (a' := ?_) #[true, true, true, true, true, true, true, true, true, true, false, false, false] rfl rfl (take_ofW HT_.out HW_.out (by kernel_rfl)) (fun _ _ _ h => h) (Or.inl ⟨by rfl, ?_⟩) hHeld ?_ ?_
        rotate_left
        ·rintro w' ⟨s0, s1⟩
         go_simp
         with_reducible rfl
        rotate_left
        ·simp only [Act.put, List.setIfInBounds_toArray, List.set_cons_zero, List.set_cons_succ, i64_w, i32_w]
         rfl
        refine pure_ (i := 10) (N := some 38) (v := ?_) (a' := ?_) #[true, true, true, true, true, true, true, true, true, true, true, false, false] rfl rfl (any_of HT_.out (by kernel_rfl)) (fun _ _ _ h => h) (Or.inl ⟨by rfl, ?_⟩) ?_ ?_
        rotate_left
        ·intro w'
         go_simp
         with_reducible rfl
        rotate_left
        ·simp only [Act.put, List.setIfInBounds_toArray, List.set_cons_zero, List.set_cons_succ, i64_w, i32_w]
         rfl
        refine pure_ (i := 11) (N := some 39) (v := ?_) (a' := ?_) #[true, true, true, true, true, true, true, true, true, true, true, true, false] rfl rfl (any_of HT_.out (by kernel_rfl)) (fun _ _ _ h => h) (Or.inl ⟨by rfl, ?_⟩) ?_ ?_
        rotate_left
        ·intro w'
         go_simp
         with_reducible rfl
        rotate_left
        ·simp only [Act.put, List.setIfInBounds_toArray, List.set_cons_zero, List.set_cons_succ, i64_w, i32_w]
         rfl
        refine last_ (i := 12) (N := none) #[true, true, true, true, true, true, true, true, true, true, true, true, true] rfl rfl (one_of HT_.out (by kernel_rfl)) (by decide) (fun K hK => ?_)
        refine skip_ (w1 := ?_) (by rfl) rfl ?_ ?_
        rotate_left
        ·go_simp
         rfl
        refine hK.out _ _ ?_
        clear hK K
        refine done_ (done_of HT_.out (by kernel_rfl)) ?_
        try go_wp2
        (try simp only [← hl9_1])
        go_roundg k1
        case measure => have := HK1.out; omega
        case rel => exact ⟨(y119), (wrap64 (x25_1 + 1)), (by first | rfl | (simp; done) | (simp [*]; done)), H', ⟨by have := HK1.out; omega⟩, ⟨by (try simp only [hl9_1]); (with_reducible repeat (first | apply Kd.R_alloc | apply Kd.R_drewN | apply Kd.R_drew)); exact Kd.R_mono (Kd.R_far (p := ⟨go16, (x25_1 : Int).toNat, none⟩) (Kd.R_mono HO_8.out (fun k_ hk => (⟨hk, fun e_ => hk (by rw [e_]; rfl)⟩ : _ ∧ k_ ≠ go16))) (fun _ hk => hk.2) (.int .i64 ji15)) (fun _ hk => hk.1)⟩, ⟨by (try simp only [hl9_1]); (with_reducible repeat (first | apply Kd.R_alloc | apply Kd.R_drewN | apply Kd.R_drew)); exact HQ19.out⟩, ⟨by repeat (first | (with_reducible first | exact HB.out | apply below_alloc | apply pw_below_drewN | apply below_drew1 | refine below_set ?_ GB16.out) | exact HB.out)⟩⟩
       ·rw [if_neg c14] at H
        exact absurd H (by simp)
      ·rw [if_neg c13] at H
       exact absurd H (by simp)
     ·rw [if_neg c12] at H
      exact absurd H (by simp)
    ·rw [if_neg c11] at H
     have c11b0 : decide (x25_1 < (t114.length : Int)) = false := decide_eq_false c11
     (try simp only [hl9_1] at c11b0)
     clear c11
     simp only [Option.some.injEq, Prod.mk.injEq] at H
     obtain ⟨rfl, rfl, rfl⟩ := H
     go_wp2
     go_ret3
     exact ⟨_, _, by first | rfl | (simp [errW_none, errW_some] <;> rfl) | (simp [*, errW_none, errW_some] <;> rfl), by (with_reducible repeat (first | apply Kd.R_alloc | apply Kd.R_drewN | apply Kd.R_drew)); exact HO_8.out, by (with_reducible repeat (first | apply Kd.R_alloc | apply Kd.R_drewN | apply Kd.R_drew)); exact HO_9.out, by repeat (first | (with_reducible first | exact HB.out | apply below_alloc | apply pw_below_drewN | apply below_drew1) | exact HB.out)⟩
 ·rw [if_neg c4] at H
  have c4b0 : (t110 == 0) = false := beq_eq_false_iff_ne.mpr c4
  have c4b1 : (t110 != 0) = true := bne_iff_ne.mpr c4
  simp only [Option.some.injEq, Prod.mk.injEq] at H
  obtain ⟨rfl, rfl, rfl⟩ := H
  go_enter Try.func29, Try.ntmps29
  go_wp2_with (first | ((with_reducible refine gate_callee (f := 41) rfl ?_); refine goesL_ (some 13) rfl rfl Try.func41 (by kernel_rfl) rfl #[.int .i64 a0, .slice A1 l1.length c1] rfl (by (try simp only [List.map_toArray, List.map_cons, List.map_nil]); first | done | rfl | (simp only [List.length_drop, List.length_take]; rfl)) ?_; (with_reducible refine (balance_Check.calls k a0 _ _ l1 t110 _ ?side1 ?side2 A3.out).mono ?_); (case side1 => repeat (first | exact HR1.out | (with_reducible refine Kd.C_alloc ?_ _) | (with_reducible refine Kd.C_drewN ?_ _) | (with_reducible refine Kd.C_drew ?_))); (case side2 => exact HC1.out); rintro e w20 ⟨rfl, hb⟩; refine ⟨_, rfl, ?_⟩; have n0_ := Aside0.mk (below_step (by repeat (first | (with_reducible first | exact HB.out | apply below_alloc | apply pw_below_drewN | apply below_drew1) | exact HB.out)) hb); clear HB; have HB := n0_; clear n0_; (try clear hb); (try clear hb2); (try clear hk); (try clear hi)))
  go_ret3
  exact ⟨_, _, by first | rfl | (simp [errW_none, errW_some] <;> rfl) | (simp [*, errW_none, errW_some] <;> rfl), by first | exact Kd.R_nil _ _ _ _ _ | exact Kd.N_nil _ _ _ _ _ | exact Kd.V_nil _ _ _ _ _ | exact Kd.Q_nil _ _ _ _ _ | exact Kd.S_nil _ _ _ _ _, by first | exact Kd.R_nil _ _ _ _ _ | exact Kd.N_nil _ _ _ _ _ | exact Kd.V_nil _ _ _ _ _ | exact Kd.Q_nil _ _ _ _ _ | exact Kd.S_nil _ _ _ _ _, by repeat (first | (with_reducible first | exact HB.out | apply below_alloc | apply pw_below_drewN | apply below_drew1) | exact HB.out)⟩

end Go.Proofs.Ytohaoaiffneamaa.QBalance
