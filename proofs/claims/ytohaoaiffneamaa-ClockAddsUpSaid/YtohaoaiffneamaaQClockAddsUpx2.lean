-- Written by a program of this session (myprint.py) for this claim: contracts of the functions that the law reaches. Not trusted: Lean checks it.
import Derived.Test.YtohaoaiffneamaaQClockAddsUpx0
import Derived.Test.YtohaoaiffneamaaQClockAddsUpx1
namespace Go.Proofs.Ytohaoaiffneamaa.QClockAddsUp
open Go.RowKit Go.Proofs.YtohaoaiffneamaaW.PrintWords Go.Proofs.YtohaoaiffneamaaW.PrintLast Go.Proofs.YtohaoaiffneamaaW.PrintMore
attribute [local go_sem] cell_set2 cell_set2d max2_int min2_int max_two min_two max_three min_three max_four min_four   -- for this text's walks alone
set_option linter.unusedVariables false
set_option linter.unusedSimpArgs false

/-! ### api_ClockEvent: function 36 -/
def api_ClockEvent.f (l0 : List S70) : Option (List S70) := if l0.length < 5864062014805 then some l0 else none
set_option maxHeartbeats 1000000 in
set_option maxRecDepth 100000 in
theorem api_ClockEvent.calls (A0 : Option Addr) (c0 : Nat) (l0 : List S70) (r : List S70) (w : World) (hr0 : Kd.C k70 w A0 l0.length l0) (hc0 : l0.length ≤ c0) (h : api_ClockEvent.f l0 = some r) :
  Calls Try.prog 36 #[.slice A0 l0.length c0] w fun e w' => ∃ v0_ : Value, e = .returned (v0_) ∧ Kd.R k70 70 w' w.heap.size (fun _ => True) v0_ r ∧ Below w.heap.size w w' := by
 have hlim : l0.length < 5864062014805 := by
  by_cases c : l0.length < 5864062014805
  ·exact c
  ·unfold api_ClockEvent.f at h; rw [if_neg c] at h; cases h
 unfold api_ClockEvent.f at h
 rw [if_pos hlim] at h
 obtain rfl : l0 = r := Option.some.inj h
 clear h
 have hnil := fun (W : World) (c' : Nat) => Lib.run_eql_slice_nil (P := Try.prog) W 62 70 A0 l0.length c0 0 c' Try.underlying62
 have HR := Aside0.mk hr0
 have HLM := Aside0.mk hlim
 clear hr0 hlim
 cases A0 with
 | none =>
  have he : l0 = [] := by
   cases l0 with
   | nil => rfl
   | cons x l => obtain ⟨ad, e, _⟩ := HR.out.2.2 (by simp); cases e
  subst he
  simp only [List.length_nil] at hnil
  go_enter Try.func36, Try.ntmps36
  go_wp2
  go_ret
  exact ⟨_, rfl, Kd.R_nil _ _ _ _ _, Below.refl _ _⟩
 | some a =>
  go_enter Try.func36, Try.ntmps36
  go_wp2_with (first
   | (refine Kd.R_lit k70 _ 70 ?hg (N := 5) ?hd (xs := ([] : List S70)) (inner := []) (ok := fun _ => True) (okp := fun _ => True) ?hr ?hp (fun _ hk => hk) trivial (Below.refl _ _) (Nat.le_refl _) (by simp) ?_; (case hd => rfl); (case hg => rfl); (case hr => first | (go_simp; done) | (go_simp; rfl)); (case hp => exact Reps.none _ _); intro v1 w1 ho hb hg_ hnew_; have HO := Aside0.mk ho; have HB := Aside0.mk hb; clear ho hb hg_ hnew_)
   | (at_builtin; refine Kd.R_append_rows k70 (w0 := w) w.heap.size rfl (.tmp 5) (.tmp 6) 62 70 (.agg #[(.int .i64 0), (.int .i64 0), (.int .i64 0)]) 24 rfl Try.underlying62 info70 rfl (by decide) (by omega) v1 [] l0 _ _ _ (fun _ => True) (fun _ => False) rfl rfl HO.out (Kd.C_below HR.out HB.out) (fun x cs h => by obtain rfl := k70_open h; exact k70_mkM _ _ _ x) (fun _ h => h.elim) (fun _ _ => trivial) HB.out (below_size HB.out) (by have := HLM.out; simp only [List.length_nil]; omega) ?_; intro v2 w2 ho hb hg_ hat_; have HO2 := Aside0.mk ho; have HB2 := Aside0.mk hb; clear ho hb hg_ hat_))
  go_ret
  exact ⟨_, rfl, HO2.out, HB2.out⟩

-- NOT PRINTED: function 37 (clock_pass)

-- NOT PRINTED: function 38 (clock_show)

/-! ### clock_Report: function 26 -/
theorem k72_set {g n cap base : Nat} {ok : Nat → Prop} {W : World} {xs : List S72} (h : Kd.R k72 72 W base ok (.slice (some ⟨g, 0, none⟩) n cap) xs) (i : Nat) (hi : i < n) (j : Nat) (hj : j < 3) (x' : S72) (v : Value)
  (hx : [.int .i64 (rd_T72 xs i).f0, .int .i64 (rd_T72 xs i).f1, .int .i64 (rd_T72 xs i).f2].take j ++ [v] ++ [.int .i64 (rd_T72 xs i).f0, .int .i64 (rd_T72 xs i).f1, .int .i64 (rd_T72 xs i).f2].drop (j + 1) = [.int .i64 x'.f0, .int .i64 x'.f1, .int .i64 x'.f2]) :
  Kd.R k72 72 (W.setCell ⟨g, i * 3 + j, none⟩ v) base ok (.slice (some ⟨g, 0, none⟩) n cap) (xs.set i x') := by
 obtain ⟨c, hcl, hM, hcc, _⟩ := Kd.R_elem h z72 (i : Int) (by omega) (by omega)
 obtain rfl := k72_openM hM
 have := (Kd.R_seg (x' := x') (seg := [v]) (j := j) h (i : Int) (by omega) (by omega) hcl hcc (by show j + 1 ≤ 3; omega) (okp := fun k => ok k ∧ k ≠ g) (by
  rw [Int.toNat_natCast] at *
  have hx' := hx
  unfold rd_T72 at hx'
  rw [Int.toNat_natCast] at hx'
  show k72.M _ _ _ x' _
  simp only [List.length_singleton]
  rw [hx']
  exact k72_mkM _ _ _ x') (fun k hk => hk)).1
 rw [Int.toNat_natCast] at this
 exact this
theorem R70_keep {w w1 : World} {base : Nat} {v : Value} {xs : List S70} (h : Kd.R k70 70 w base (fun _ => True) v xs) (hm : ∀ (k : Nat) (cells : Array Value), w.heap[k]? = some (.cells cells 70 (0, 0)) → w1.heap[k]? = w.heap[k]?) : Kd.R k70 70 w1 base (fun _ => True) v xs :=
 Kd.R_mono (Kd.R_move (Kd.R_bound h) (fun k hk => by
  obtain ⟨_, _, _, q, hq, cells, hc⟩ := hk
  have : q = 70 := by simpa using (show q ∈ [70] from hq)
  subst this
  exact hm k cells hc)) (fun _ _ => trivial)
def K70 (wa w : World) : Prop := ∀ (k : Nat) (cells : Array Value), wa.heap[k]? = some (.cells cells 70 (0, 0)) → w.heap[k]? = some (.cells cells 70 (0, 0))
theorem K70.put {wa w : World} {g i : Nat} {t : TypeId} {c : Array Value} {u : Value} (h : K70 wa w) (hb : w.heap[g]? = some (.cells c t (0, 0))) (ht : (70 : TypeId) ≠ t) : K70 wa (w.setCell ⟨g, i, none⟩ u) :=
 fun k cells hk => (Below.heap_setCell w ⟨g, i, none⟩ u k (fun e => by subst e; rw [h _ _ hk] at hb; injection hb with hb; injection hb with _ hb; exact ht hb)).trans (h _ _ hk)
theorem K70.below {wa w w1 : World} (h : K70 wa w) (hb : Below w.heap.size w w1) : K70 wa w1 := fun k cells hk => blk_below (h k cells hk) hb
theorem K70.row {wa w : World} {base : Nat} {v : Value} {xs : List S70} (h : K70 wa w) (hr : Kd.R k70 70 wa base (fun _ => True) v xs) : Kd.R k70 70 w base (fun _ => True) v xs := R70_keep hr (fun k cells hk => (h k cells hk).trans hk.symm)
theorem R72_typed {w : World} {base b n cap : Nat} {ok : Nat → Prop} {xs : List S72} (h : Kd.R k72 72 w base ok (.slice (some ⟨b, 0, none⟩) n cap) xs) : ∃ cells, w.heap[b]? = some (.cells cells 72 (0, 0)) := by
 obtain ⟨_, inner, ho, hr⟩ := h
 exact own_typed ho b (by simp [Value.ownBlock])
structure Clk (w : World) (base g h : Nat) (wa : World) (run : Bool) (total slide : Int) (sv : Value) (sl : List S72) : Prop where
 st : w.heap[g]? = some (.cells #[.bool run, .int .i64 total, .int .i64 slide, sv] 66 (0, 0))
 res : w.heap[h]? = some (.cells #[.bool false, .int .i64 0, .int .i64 0, .slice none 0 0] 66 (0, 0))
 own : Kd.R k72 72 w base (fun k => k ≠ g ∧ k ≠ h) sv sl
 evr : K70 wa w
 ge : base ≤ g
 he : base ≤ h
 ne : g ≠ h
theorem Clk.f0 {w base g h wa run total slide sv sl} (c : Clk w base g h wa run total slide sv sl) : w.cell? ⟨g, 0, none⟩ = some (.bool run) := (blk_cell c.st 0).trans rfl
theorem Clk.f1 {w base g h wa run total slide sv sl} (c : Clk w base g h wa run total slide sv sl) : w.cell? ⟨g, 1, none⟩ = some (.int .i64 total) := (blk_cell c.st 1).trans rfl
theorem Clk.f2 {w base g h wa run total slide sv sl} (c : Clk w base g h wa run total slide sv sl) : w.cell? ⟨g, 2, none⟩ = some (.int .i64 slide) := (blk_cell c.st 2).trans rfl
theorem Clk.f3 {w base g h wa run total slide sv sl} (c : Clk w base g h wa run total slide sv sl) : w.cell? ⟨g, 3, none⟩ = some sv := (blk_cell c.st 3).trans rfl
theorem Clk.fz {w base g h wa run total slide sv sl} (c : Clk w base g h wa run total slide sv sl) (i : Nat) : w.frozen? ⟨g, i, none⟩ = false := blk_frozen c.st i
theorem Clk.below {w base g h wa run total slide sv sl} {w1 : World} (c : Clk w base g h wa run total slide sv sl) (hb : Below w.heap.size w w1) : Clk w1 base g h wa run total slide sv sl :=
 ⟨blk_below c.st hb, blk_below c.res hb, Kd.R_below c.own hb, c.evr.below hb, c.ge, c.he, c.ne⟩
theorem Clk.self {w base g h wa run total slide sv sl} (c : Clk w base g h wa run total slide sv sl) : Clk w base g h w run total slide sv sl := ⟨c.st, c.res, c.own, fun _ _ h => h, c.ge, c.he, c.ne⟩
/-- A field is written. -/
theorem Clk.put {w base g h wa run total slide sv sl} (c : Clk w base g h wa run total slide sv sl) (i : Nat) (v : Value) {run' total' slide'} (hv : (#[.bool run, .int .i64 total, .int .i64 slide, sv] : Array Value).setIfInBounds i v = #[.bool run', .int .i64 total', .int .i64 slide', sv]) : Clk (w.setCell ⟨g, i, none⟩ v) base g h wa run' total' slide' sv sl :=
 ⟨by rw [← hv]; exact blk_put c.st i v rfl, (Below.heap_setCell w ⟨g, i, none⟩ v h (Ne.symm c.ne)).trans c.res, Kd.R_far c.own (fun k hk => hk.1) v, c.evr.put c.st (by decide), c.ge, c.he, c.ne⟩
/-- An element of the slides is written. -/
theorem Clk.el {w base g h wa run total slide sl} {b n cap : Nat} (c : Clk w base g h wa run total slide (.slice (some ⟨b, 0, none⟩) n cap) sl) (i : Nat) (hi : i < n) (j : Nat) (hj : j < 3) (x' : S72) (v : Value)
  (hx : [.int .i64 (rd_T72 sl i).f0, .int .i64 (rd_T72 sl i).f1, .int .i64 (rd_T72 sl i).f2].take j ++ [v] ++ [.int .i64 (rd_T72 sl i).f0, .int .i64 (rd_T72 sl i).f1, .int .i64 (rd_T72 sl i).f2].drop (j + 1) = [.int .i64 x'.f0, .int .i64 x'.f1, .int .i64 x'.f2]) :
  Clk (w.setCell ⟨b, i * 3 + j, none⟩ v) base g h wa run total slide (.slice (some ⟨b, 0, none⟩) n cap) (sl.set i x') := by
 obtain ⟨h1, h2⟩ := c.own.1 b (by simp [Value.ownBlock])
 obtain ⟨cells, hty⟩ := R72_typed c.own
 exact ⟨(Below.heap_setCell w ⟨b, _, none⟩ v g (Ne.symm h1)).trans c.st, (Below.heap_setCell w ⟨b, _, none⟩ v h (Ne.symm h2)).trans c.res, k72_set c.own i hi j hj x' v hx, c.evr.put hty (by decide), c.ge, c.he, c.ne⟩
def pass1 (s t : Int) (x : S72) : S72 := if x.f0 = s then ⟨x.f0, wrap64 (x.f1 + t), x.f2⟩ else x
theorem pass_step {s t : Int} {sl cur : List S72} {i : Nat} (h : cur.take i ++ (cur.drop i).map (pass1 s t) = sl.map (pass1 s t)) (hi : i < cur.length) :
  (cur.set i (pass1 s t (rd_T72 cur i))).take (i + 1) ++ ((cur.set i (pass1 s t (rd_T72 cur i))).drop (i + 1)).map (pass1 s t) = sl.map (pass1 s t) := by
 rw [← h]
 have e : rd_T72 cur i = cur[i] := by unfold rd_T72; rw [Int.toNat_natCast, List.getD_eq_getElem?_getD, List.getElem?_eq_getElem hi]; rfl
 rw [e, List.take_set, List.drop_set_of_lt (by omega), List.drop_eq_getElem_cons hi, List.map_cons]
 rw [List.take_succ_eq_append_getElem hi, List.set_append_right _ _ (by simp; omega)]
 simp [List.length_take, Nat.min_eq_left (Nat.le_of_lt hi)]
theorem pass_stay {s t : Int} {sl cur : List S72} {i : Nat} (h : cur.take i ++ (cur.drop i).map (pass1 s t) = sl.map (pass1 s t)) (hi : i < cur.length) (hne : (rd_T72 cur i).f0 ≠ s) :
  cur.take (i + 1) ++ (cur.drop (i + 1)).map (pass1 s t) = sl.map (pass1 s t) := by
 have := pass_step h hi
 have e : rd_T72 cur i = cur[i] := by unfold rd_T72; rw [Int.toNat_natCast, List.getD_eq_getElem?_getD, List.getElem?_eq_getElem hi]; rfl
 have e2 : pass1 s t (rd_T72 cur i) = cur[i] := by unfold pass1; rw [if_neg hne, e]
 rwa [e2, List.set_getElem_self] at this
theorem R72_some {w : World} {base : Nat} {ok : Nat → Prop} {A : Option Addr} {n c : Nat} {xs : List S72} (h : Kd.R k72 72 w base ok (.slice A n c) xs) (hn : 0 < n) : ∃ b, A = some ⟨b, 0, none⟩ := by
 obtain ⟨_, inner, ho, hr⟩ := h
 rcases ho.2 with ⟨hv, _⟩ | ⟨g', cap', cur, hv, _⟩
 ·injection hv with h1 h2 h3; omega
 ·injection hv with h1 h2 h3; exact ⟨g', h1⟩
macro "go_ret0" : tactic => `(tactic| ((try simp only [Exit.inBlock, Exit.then]); refine bodyPost_ret (results_none rfl _ _ _) rfl ?_))
set_option maxHeartbeats 1000000 in
set_option maxRecDepth 100000 in
theorem clock_pass_off.calls (base g h : Nat) (wa : World) (total slide : Int) (sv : Value) (sl : List S72) (t : Int) (w0 w : World) (hc : Clk w base g h wa false total slide sv sl) (hb : Below base w0 w) :
  Calls Try.prog 37 #[.pointer (some ⟨g, 0, none⟩), .int .i64 t] w fun e w' => e = .returned (.tuple #[]) ∧ Clk w' base g h wa false total slide sv sl ∧ Below base w0 w' := by
 have HC := Aside0.mk hc
 have HB := Aside0.mk hb
 have h0 := hc.f0
 clear hc hb
 go_enter Try.func37, Try.ntmps37
 go_wp2
 go_ret0
 exact ⟨rfl, HC.out, HB.out⟩
set_option maxHeartbeats 1000000 in
set_option maxRecDepth 100000 in
theorem clock_pass_on.calls (base g h : Nat) (wa : World) (total slide : Int) (sv : Value) (sl : List S72) (t : Int) (w0 w : World) (hc : Clk w base g h wa true total slide sv sl) (hb : Below base w0 w) :
  Calls Try.prog 37 #[.pointer (some ⟨g, 0, none⟩), .int .i64 t] w fun e w' => e = .returned (.tuple #[]) ∧ Clk w' base g h wa true (wrap64 (total + t)) slide sv (sl.map (pass1 slide t)) ∧ Below base w0 w' := by
 have h0 := hc.f0
 have h1 := hc.f1
 have h3 := hc.f3
 have z1 := hc.fz 1
 have HC := Aside0.mk (hc.put 1 (.int .i64 (wrap64 (total + t))) (total' := wrap64 (total + t)) rfl)
 have HB := Aside0.mk (hb.setCell (p := ⟨g, 1, none⟩) hc.ge (.int .i64 (wrap64 (total + t))))
 obtain ⟨A, c, hsv, hlc, hreads⟩ := Kd.R_reads hc.own
 subst hsv
 have hlen := hreads.2.1
 have HL := Aside0.mk hlc
 have HLEN := Aside0.mk hlen
 clear hc hb hreads hlc hlen
 go_enter Try.func37, Try.ntmps37
 go_wp2
 go_loopg [23] sl.length (fun kq v23 wr => ∃ (i : Nat) (cur : List S72), i + kq = sl.length ∧ v23 = .int .i64 i ∧ Aside0 (cur.length = sl.length) ∧ Aside0 (cur.take i ++ (cur.drop i).map (pass1 slide t) = sl.map (pass1 slide t)) ∧ Aside0 (Clk wr base g h wa true (wrap64 (total + t)) slide (.slice A sl.length c) cur) ∧ Aside0 (Below base w0 wr))
 case atStart => exact ⟨0, sl, by omega, rfl, ⟨rfl⟩, ⟨by simp⟩, HC, HB⟩
 case round =>
  clear HC HB
  obtain ⟨i, cur, hi, rfl, HL2, HS, HC, HB⟩ := hrel
  have h0 := HC.out.f0
  have h2 := HC.out.f2
  have h3 := HC.out.f3
  cases gk with
  | zero =>
   have hie : i = sl.length := by omega
   go_wp2
   go_end0
   refine ⟨rfl, ?_, HB.out⟩
   have := HS.out
   rw [hie, ← HL2.out, List.take_length, List.drop_length, List.map_nil, List.append_nil] at this
   exact this ▸ HC.out
  | succ k1 =>
   have hlt : i < sl.length := by omega
   obtain ⟨b, rfl⟩ : ∃ b, A = some ⟨b, 0, none⟩ := R72_some HC.out.own (by omega)
   have hwr : wrap64 ((i : Int) + 1) = ((i + 1 : Nat) : Int) := by have := HLEN.out; rw [show wrap64 ((i : Int) + 1) = (i : Int) + 1 by unfold wrap64; omega]; omega
   obtain ⟨ce, hcl, hM, hcc, hfz⟩ := Kd.R_elem HC.out.own z72 (i : Int) (by omega) (by omega)
   obtain rfl := k72_openM hM
   have e0 : wr.cell? ⟨b, i * 3, none⟩ = some (.int .i64 (rd_T72 cur i).f0) := by have := hcc 0 _ rfl; rwa [Int.toNat_natCast] at this
   have e1 : wr.cell? ⟨b, i * 3 + 1, none⟩ = some (.int .i64 (rd_T72 cur i).f1) := by have := hcc 1 _ rfl; rwa [Int.toNat_natCast] at this
   have zz : wr.frozen? ⟨b, i * 3 + 1, none⟩ = false := by have := hfz 1; rwa [Int.toNat_natCast] at this
   have HC1 := Aside0.mk (HC.out.below (w1 := wr.drew) (below_drew1 (Below.refl _ _)))
   have HB1 := Aside0.mk (show Below base w0 wr.drew from below_drew1 HB.out)
   have HEL := Aside0.mk (fun v : Int => HC1.out.el i hlt 1 (by omega) ⟨(rd_T72 cur i).f0, v, (rd_T72 cur i).f2⟩ (.int .i64 v) rfl)
   have HBE := Aside0.mk (fun v : Value => HB1.out.setCell (p := ⟨b, i * 3 + 1, none⟩) (Kd.R_base HC.out.own b (by simp [Value.ownBlock])) v)
   have hib : i < cur.length := by rw [HL2.out]; exact hlt
   clear hcl hM hcc hfz
   by_cases hq : (rd_T72 cur i).f0 = slide
   ·have hqb : ((rd_T72 cur i).f0 == slide) = true := beq_iff_eq.mpr hq
    have HST := Aside0.mk (pass_step HS.out hib)
    have HP1 := Aside0.mk (show pass1 slide t (rd_T72 cur i) = ⟨(rd_T72 cur i).f0, wrap64 ((rd_T72 cur i).f1 + t), (rd_T72 cur i).f2⟩ by unfold pass1; rw [if_pos hq])
    have HI := Aside0.mk hi
    have HLI := Aside0.mk (show (cur.set i ⟨(rd_T72 cur i).f0, wrap64 ((rd_T72 cur i).f1 + t), (rd_T72 cur i).f2⟩).length = sl.length by rw [List.length_set]; exact HL2.out)
    clear hq hi hib
    go_wp2
    go_region_held3 (fun w' => w'.cell? ⟨g, 3, none⟩ = some (.slice (some ⟨b, 0, none⟩) sl.length c) ∧ w'.cell? ⟨b, i * 3, none⟩ = some (.int .i64 (rd_T72 cur i).f0) ∧ w'.cell? ⟨g, 2, none⟩ = some (.int .i64 slide)) (go_keep) (fail)
    go_wp2
    go_roundg k1
    case measure => omega
    case rel => exact ⟨i + 1, _, by have := HI.out; omega, by go_num, HLI, ⟨by rw [← HP1.out]; exact HST.out⟩, ⟨HEL.out _⟩, ⟨HBE.out _⟩⟩
   ·have hqb : ((rd_T72 cur i).f0 == slide) = false := beq_eq_false_iff_ne.mpr hq
    have HST := Aside0.mk (pass_stay HS.out hib hq)
    have HI := Aside0.mk hi
    clear hq hi hib
    go_wp2
    go_region_held3 (fun w' => w'.cell? ⟨g, 3, none⟩ = some (.slice (some ⟨b, 0, none⟩) sl.length c) ∧ w'.cell? ⟨b, i * 3, none⟩ = some (.int .i64 (rd_T72 cur i).f0) ∧ w'.cell? ⟨g, 2, none⟩ = some (.int .i64 slide)) (go_keep) (fail)
    go_wp2
    go_roundg k1
    case measure => omega
    case rel => exact ⟨i + 1, cur, by have := HI.out; omega, by go_num, HL2, HST, HC1, HB1⟩
def show1 (again : Bool) (s : Int) : List S72 → List S72
 | [] => [⟨s, 0, 1⟩]
 | x :: l => if x.f0 = s then (if again then x else ⟨x.f0, x.f1, wrap64 (x.f2 + 1)⟩) :: l else x :: show1 again s l
theorem show1_hit {again : Bool} {s : Int} : ∀ {sl : List S72} {i : Nat}, i < sl.length → (∀ j : Nat, j < i → (rd_T72 sl j).f0 ≠ s) → (rd_T72 sl i).f0 = s → show1 again s sl = sl.set i (if again then rd_T72 sl i else ⟨(rd_T72 sl i).f0, (rd_T72 sl i).f1, wrap64 ((rd_T72 sl i).f2 + 1)⟩)
 | [], i, h, _, _ => by simp at h
 | x :: l, 0, _, _, h => by
  have e : rd_T72 (x :: l) ((0 : Nat) : Int) = x := rfl
  rw [e] at h ⊢
  unfold show1
  rw [if_pos h, List.set_cons_zero]
 | x :: l, i + 1, h, h2, h3 => by
  have e : rd_T72 (x :: l) ((i + 1 : Nat) : Int) = rd_T72 l (i : Int) := by unfold rd_T72; rw [Int.toNat_natCast, Int.toNat_natCast]; rfl
  have n0 := h2 0 (by omega)
  have e0 : rd_T72 (x :: l) ((0 : Nat) : Int) = x := rfl
  rw [e0] at n0
  rw [e] at h3 ⊢
  unfold show1
  rw [if_neg n0, List.set_cons_succ, show1_hit (by simpa using h) (fun j hj => by
   have := h2 (j + 1) (by omega)
   rwa [show rd_T72 (x :: l) ((j + 1 : Nat) : Int) = rd_T72 l (j : Int) by unfold rd_T72; rw [Int.toNat_natCast, Int.toNat_natCast]; rfl] at this) h3]
theorem show1_miss {again : Bool} {s : Int} : ∀ {sl : List S72}, (∀ j : Nat, j < sl.length → (rd_T72 sl j).f0 ≠ s) → show1 again s sl = sl ++ [⟨s, 0, 1⟩]
 | [], _ => rfl
 | x :: l, h2 => by
  have n0 := h2 0 (by simp)
  have e0 : rd_T72 (x :: l) ((0 : Nat) : Int) = x := rfl
  rw [e0] at n0
  unfold show1
  rw [if_neg n0, List.cons_append, show1_miss (fun j hj => by
   have := h2 (j + 1) (by simpa using hj)
   rwa [show rd_T72 (x :: l) ((j + 1 : Nat) : Int) = rd_T72 l (j : Int) by unfold rd_T72; rw [Int.toNat_natCast, Int.toNat_natCast]; rfl] at this)]
theorem Clk.far {w w1 : World} {base g h wa run total slide sv sl} (c : Clk w base g h wa run total slide sv sl) (hg : w.grownBy w1 sv.ownBlock) : w1.heap[g]? = some (.cells #[.bool run, .int .i64 total, .int .i64 slide, sv] 66 (0, 0)) := blk_grown c.st hg (Kd.R_away c.own (fun k hk => hk.1))
theorem Clk.app {w w1 : World} {base g h wa run total slide sv sl sv1 sl1} (c : Clk w base g h wa run total slide sv sl) (hg : w.grownBy w1 sv.ownBlock) (ho : Kd.R k72 72 w1 base (fun k => k ≠ g ∧ k ≠ h) sv1 sl1) : Clk (w1.setCell ⟨g, 3, none⟩ sv1) base g h wa run total slide sv1 sl1 :=
 ⟨(blk_put (c.far hg) 3 sv1 rfl), (Below.heap_setCell w1 ⟨g, 3, none⟩ sv1 h (Ne.symm c.ne)).trans (blk_grown c.res hg (Kd.R_away c.own (fun k hk => hk.2))), Kd.R_far ho (fun k hk => hk.1) sv1, K70.put (fun k cells hk => (hg.block k (by have := blk_lt (c.evr k cells hk); exact this) (fun e => by
  obtain ⟨_, inner, how, _⟩ := c.own
  obtain ⟨cl, hcl⟩ := own_typed how k e.symm
  rw [c.evr k cells hk] at hcl; injection hcl with hcl; injection hcl with _ hcl; exact absurd hcl (by decide))).trans (c.evr k cells hk)) (c.far hg) (by decide), c.ge, c.he, c.ne⟩
set_option maxHeartbeats 2000000 in
set_option maxRecDepth 100000 in
theorem clock_show.calls (base g h : Nat) (wa : World) (run : Bool) (total slide : Int) (sv : Value) (sl : List S72) (s : Int) (w0 w : World) (hc : Clk w base g h wa run total slide sv sl) (hb : Below base w0 w) (hbase : base ≤ w.heap.size) (hlim : sl.length < 5864062014805) :
  Calls Try.prog 38 #[.pointer (some ⟨g, 0, none⟩), .int .i64 s] w fun e w' => e = .returned (.tuple #[]) ∧ (∃ sv', Clk w' base g h wa run total s sv' (show1 (slide == s) s sl)) ∧ Below base w0 w' := by
 have h2 := hc.f2
 have h3 := hc.f3
 have z2 := hc.fz 2
 have HC := Aside0.mk (hc.put 2 (.int .i64 s) (slide' := s) rfl)
 have HB := Aside0.mk (hb.setCell (p := ⟨g, 2, none⟩) hc.ge (.int .i64 s))
 have HBS := Aside0.mk (show base ≤ (w.setCell ⟨g, 2, none⟩ (.int .i64 s)).heap.size by simpa [World.setCell] using hbase)
 have HLIM := Aside0.mk hlim
 obtain ⟨A, c, hsv, hlc, hreads⟩ := Kd.R_reads hc.own
 subst hsv
 have hlen := hreads.2.1
 have HLEN := Aside0.mk hlen
 obtain ⟨ag, hag⟩ : ∃ ag, ag = (slide == s) := ⟨_, rfl⟩
 rw [← hag]
 have hag' : (slide == s) = ag := hag.symm
 clear hc hb hreads hlc hlen hag hbase hlim
 go_enter Try.func38, Try.ntmps38
 go_wp2
 clear hag'
 go_loopg [21] sl.length (fun kq v21 wr => ∃ (i : Nat), i + kq = sl.length ∧ v21 = .int .i64 i ∧ Aside0 (∀ j : Nat, j < i → (rd_T72 sl j).f0 ≠ s) ∧ Aside0 (Clk wr base g h wa run total s (.slice A sl.length c) sl) ∧ Aside0 (Below base w0 wr) ∧ Aside0 (base ≤ wr.heap.size))
 case atStart => exact ⟨0, by omega, rfl, ⟨fun j hj => absurd hj (by omega)⟩, HC, HB, HBS⟩
 case round =>
  clear HC HB HBS
  obtain ⟨i, hi, rfl, HN, HC, HB, HBS⟩ := hrel
  have h2 := HC.out.f2
  have h3 := HC.out.f3
  have z3 := HC.out.fz 3
  cases gk with
  | zero =>
   have HIE := Aside0.mk (show i = sl.length by omega)
   clear hi
   have hie := HIE.out
   go_wp2_with (at_builtin; refine Kd.R_append k72 (w0 := w0) base rfl (.tmp 52) (.tmp 55) 64 72 (.agg #[(.int .i64 0), (.int .i64 0), (.int .i64 0)]) 24 rfl Try.underlying64 info72 rfl (by decide) (by omega) (.slice A sl.length c) sl (⟨s, 0, 1⟩ : S72) [.int .i64 s, .int .i64 0, .int .i64 1] (fun k => k ≠ g ∧ k ≠ h) (fun _ => False) rfl rfl ?aP (fun _ hk => hk.elim) ?aF ?aO ?aB ?aS ?aL ?_; (case aP => exact k72_mkM _ _ _ (⟨s, 0, 1⟩ : S72)); (case aB => exact HB.out); (case aF => exact (fun k hk => ⟨Kd.freshB HC.out.st k hk, Kd.freshB HC.out.res k hk⟩)); (case aO => exact HC.out.own); (case aS => exact HBS.out); (case aL => have := HLIM.out; omega); intro v1 w2 ho hb hg hat; obtain ⟨A1, c1, rfl, _⟩ := Kd.R_reads ho; have HZ1 : w2.cell? ⟨g, 3, none⟩ = some (.slice A sl.length c) := (blk_cell (HC.out.far hg) 3).trans rfl; have HC2 := Aside0.mk (HC.out.app hg ho); have HZ := blk_frozen (HC.out.far hg) 3; have HB2 := Aside0.mk (hb.setCell (p := ⟨g, 3, none⟩) HC.out.ge (.slice A1 (sl ++ [(⟨s, 0, 1⟩ : S72)]).length c1)); clear ho hb hg hat)
   go_end0
   have hll : (sl ++ [(⟨s, 0, 1⟩ : S72)]).length = sl.length + 1 := by simp
   have hb2 := HB2.out
   have hc2 := HC2.out
   rw [hll] at hb2 hc2
   have hm : show1 ag s sl = sl ++ [⟨s, 0, 1⟩] := show1_miss (fun j hj => HN.out j (by rw [hie]; exact hj))
   refine ⟨rfl, ⟨.slice A1 (sl.length + 1) c1, ?_⟩, hb2⟩
   rw [hm]
   exact hc2
  | succ k1 =>
   have hlt : i < sl.length := by omega
   obtain ⟨b, rfl⟩ : ∃ b, A = some ⟨b, 0, none⟩ := R72_some HC.out.own (by omega)
   have hwr : wrap64 ((i : Int) + 1) = ((i + 1 : Nat) : Int) := by have := HLEN.out; rw [show wrap64 ((i : Int) + 1) = (i : Int) + 1 by unfold wrap64; omega]; omega
   obtain ⟨ce, hcl, hM, hcc, hfz⟩ := Kd.R_elem HC.out.own z72 (i : Int) (by omega) (by omega)
   obtain rfl := k72_openM hM
   have e0 : wr.cell? ⟨b, i * 3, none⟩ = some (.int .i64 (rd_T72 sl i).f0) := by have := hcc 0 _ rfl; rwa [Int.toNat_natCast] at this
   have e2 : wr.cell? ⟨b, i * 3 + 2, none⟩ = some (.int .i64 (rd_T72 sl i).f2) := by have := hcc 2 _ rfl; rwa [Int.toNat_natCast] at this
   have zz : wr.frozen? ⟨b, i * 3 + 2, none⟩ = false := by have := hfz 2; rwa [Int.toNat_natCast] at this
   have HEL := Aside0.mk (fun v : Int => HC.out.el i hlt 2 (by omega) ⟨(rd_T72 sl i).f0, (rd_T72 sl i).f1, v⟩ (.int .i64 v) rfl)
   have HBE := Aside0.mk (fun v : Value => HB.out.setCell (p := ⟨b, i * 3 + 2, none⟩) (Kd.R_base HC.out.own b (by simp [Value.ownBlock])) v)
   clear hcl hM hcc hfz
   by_cases hq : (rd_T72 sl i).f0 = s
   ·have hqb : ((rd_T72 sl i).f0 == s) = true := beq_iff_eq.mpr hq
    have HIT := Aside0.mk (show1_hit (again := ag) hlt HN.out hq)
    clear hq hi
    cases ag with
    | true =>
     go_wp2
     go_ret0
     refine ⟨rfl, ⟨.slice (some ⟨b, 0, none⟩) sl.length c, ?_⟩, HB.out⟩
     rw [HIT.out, if_pos (by simp), show sl.set i (rd_T72 sl i) = sl by
      have e : rd_T72 sl i = sl[i] := by unfold rd_T72; rw [Int.toNat_natCast, List.getD_eq_getElem?_getD, List.getElem?_eq_getElem hlt]; rfl
      rw [e, List.set_getElem_self]]
     exact HC.out
    | false =>
     go_wp2
     go_ret0
     refine ⟨rfl, ⟨.slice (some ⟨b, 0, none⟩) sl.length c, ?_⟩, HBE.out _⟩
     rw [HIT.out, if_neg (by simp)]
     exact HEL.out _
   ·have hqb : ((rd_T72 sl i).f0 == s) = false := beq_eq_false_iff_ne.mpr hq
    have HN2 := Aside0.mk (show ∀ j : Nat, j < i + 1 → (rd_T72 sl j).f0 ≠ s from fun j hj => by
     rcases Nat.lt_or_ge j i with hj2 | hj2
     ·exact HN.out j hj2
     ·obtain rfl : j = i := by omega
      exact hq)
    have HI := Aside0.mk hi
    clear hq hi
    go_wp2
    go_roundg k1
    case measure => omega
    case rel => exact ⟨i + 1, by have := HI.out; omega, by go_num, HN2, HC, HB, HBS⟩
theorem clock_pass.calls (base g h : Nat) (wa : World) (run : Bool) (total slide : Int) (sv : Value) (sl : List S72) (t : Int) (w0 w : World) (hc : Clk w base g h wa run total slide sv sl) (hb : Below base w0 w) :
  Calls Try.prog 37 #[.pointer (some ⟨g, 0, none⟩), .int .i64 t] w fun e w' => e = .returned (.tuple #[]) ∧ Clk w' base g h wa run (if run then wrap64 (total + t) else total) slide sv (if run then sl.map (pass1 slide t) else sl) ∧ Below base w0 w' := by
 cases run with
 | false => simpa using clock_pass_off.calls base g h wa total slide sv sl t w0 w hc hb
 | true => simpa using clock_pass_on.calls base g h wa total slide sv sl t w0 w hc hb
def clock_step (at_ : Int) (x : S70) (c : Bool × Int × Int × List S72 × Int) : Bool × Int × Int × List S72 × Int :=
 let t := wrap64 (mn x.f1 at_ - c.2.2.2.2)
 let tot := if c.1 then wrap64 (c.2.1 + t) else c.2.1
 let sl := if c.1 then c.2.2.2.1.map (pass1 c.2.2.1 t) else c.2.2.2.1
 if x.f1 > at_ then (c.1, tot, c.2.2.1, sl, mn x.f1 at_)
 else if x.f0 = 0 then (true, tot, c.2.2.1, sl, mn x.f1 at_)
 else if x.f0 = 1 ∨ x.f0 = 3 then (false, tot, c.2.2.1, sl, mn x.f1 at_)
 else if x.f0 = 2 then (c.1, tot, x.f2, show1 (c.2.2.1 == x.f2) x.f2 sl, mn x.f1 at_)
 else (c.1, tot, c.2.2.1, sl, mn x.f1 at_)
def clock_run (at_ : Int) : List S70 → Bool × Int × Int × List S72 × Int → Bool × Int × Int × List S72 × Int
 | [], c => c
 | x :: l, c => clock_run at_ l (clock_step at_ x c)
def clock_Report.f (k : Nat) (l0 : List S70) (a1 : Int) : Option (Bool × Int × Int × List S72 × Int) :=
 (clock_Check.f k l0).bind fun t => if t = 0 then (if a1 < 0 ∨ a1 > 10000000 then some (false, 0, 0, ([] : List S72), 2) else
  let c := clock_run a1 (l0 ++ [⟨-1, a1, 0⟩]) (false, 0, 0, ([] : List S72), 0)
  some (c.1, c.2.1, c.2.2.1, c.2.2.2.1, 0)) else some (false, 0, 0, ([] : List S72), t)
theorem clock_Report.mono : ∀ a0 a1 k, LeO (clock_Report.f k a0 a1) (clock_Report.f (k + 1) a0 a1) := fun a0 a1 k => LeO.bind (clock_Check.mono a0 k) (fun _ => LeO.refl _)
theorem clock_Check_len {k : Nat} {l : List S70} (h : clock_Check.f k l = some 0) : l.length ≤ 1000 := by
 unfold clock_Check.f at h
 by_cases c : (l.length : Int) > 1000
 ·rw [if_pos c] at h; cases h
 ·omega
theorem show1_len (a : Bool) (s : Int) : ∀ sl : List S72, (show1 a s sl).length ≤ sl.length + 1
 | [] => by simp [show1]
 | x :: l => by
  unfold show1
  by_cases c : x.f0 = s
  ·rw [if_pos c]; simp
  ·rw [if_neg c]; have := show1_len a s l; simp; omega
theorem blk_put4 {w : World} {g : Nat} {t : TypeId} {a b c d : Value} (h : w.heap[g]? = some (.cells #[a, b, c, d] t (0, 0))) (a1 b1 c1 d1 : Value) : ((((w.setCell ⟨g, 0, none⟩ a1).setCell ⟨g, 1, none⟩ b1).setCell ⟨g, 2, none⟩ c1).setCell ⟨g, 3, none⟩ d1).heap[g]? = some (.cells #[a1, b1, c1, d1] t (0, 0)) :=
 blk_put (cs := #[a1, b1, c1, d]) (blk_put (cs := #[a1, b1, c, d]) (blk_put (cs := #[a1, b, c, d]) (blk_put (cs := #[a, b, c, d]) h 0 a1 rfl) 1 b1 rfl) 2 c1 rfl) 3 d1 rfl
set_option maxHeartbeats 2000000 in
set_option maxRecDepth 100000 in
theorem clock_Report_bad (k : Nat) (A0 : Option Addr) (c0 : Nat) (l0 : List S70) (a1 : Int) (t : Int) (w : World) (hr0 : Kd.C k70 w A0 l0.length l0) (hc0 : l0.length ≤ c0) (ht : clock_Check.f k l0 = some t) (hz : t ≠ 0) :
  Calls Try.prog 26 #[.slice A0 l0.length c0, .int .i64 a1] w fun e w' => e = .returned (.tuple #[.agg #[.bool false, .int .i64 0, .int .i64 0, .slice none 0 0], .int .i64 t]) ∧ Below w.heap.size w w' := by
 have HR := Aside0.mk hr0
 have HT := Aside0.mk ht
 have hz1 : (t == 0) = false := beq_eq_false_iff_ne.mpr hz
 have hz2 : (t != 0) = true := bne_iff_ne.mpr hz
 clear hr0 ht
 go_enter Try.func26, Try.ntmps26
 go_wp2_with (first
  | ((with_reducible refine gate_dst (N := 4) rfl ?_); refine box_event ?hg (N := 4) ?hd (cs := #[.bool false, .int .i64 0, .int .i64 0, .slice none 0 0]) (t := 66) ?hr ?_; (case hd => rfl); (case hg => rfl); (case hr => first | (go_simp; done) | (go_simp; rfl)); intro h hh w1 hbox hb; have BK := Aside0.mk hbox; have HB := Aside0.mk hb; have HH := Aside0.mk hh; clear hb hbox hh)
  | (go_at_call 35; refine (clock_Check.calls k A0 c0 l0 t _ (Kd.C_below HR.out HB.out) hc0 HT.out).mono ?_; rintro e w2 ⟨rfl, hb2⟩; have BK2 := Aside0.mk (blk_below BK.out hb2); have HB2 := Aside0.mk (below_step HB.out hb2); clear hb2 BK HB; have c0_ : w2.cell? ⟨h, 0, none⟩ = some (.bool false) := (blk_cell BK2.out 0).trans rfl; have c1_ : w2.cell? ⟨h, 1, none⟩ = some (.int .i64 0) := (blk_cell BK2.out 1).trans rfl; have c2_ : w2.cell? ⟨h, 2, none⟩ = some (.int .i64 0) := (blk_cell BK2.out 2).trans rfl; have c3_ : w2.cell? ⟨h, 3, none⟩ = some (.slice none 0 0) := (blk_cell BK2.out 3).trans rfl; have z0_ := blk_frozen BK2.out 0; have z1_ := blk_frozen BK2.out 1; have z2_ := blk_frozen BK2.out 2; have z3_ := blk_frozen BK2.out 3))
 refine bodyPost_ret (results_ct rfl _ _ h 66 #[.bool false, .int .i64 0, .int .i64 0, .slice none 0 0] (0, 0) _ rfl (blk_put4 BK2.out _ _ _ _) Try.underlying66 rfl (by kernel_rfl)) rfl ?_
 have hle := Nat.le_of_eq HH.out.symm
 exact ⟨rfl, (((HB2.out.setCell (p := ⟨h, 0, none⟩) hle _).setCell (p := ⟨h, 1, none⟩) hle _).setCell (p := ⟨h, 2, none⟩) hle _).setCell (p := ⟨h, 3, none⟩) hle _⟩
set_option maxHeartbeats 2000000 in
set_option maxRecDepth 100000 in
theorem clock_Report_out (k : Nat) (A0 : Option Addr) (c0 : Nat) (l0 : List S70) (a1 : Int) (w : World) (hr0 : Kd.C k70 w A0 l0.length l0) (hc0 : l0.length ≤ c0) (ht : clock_Check.f k l0 = some 0) (hz : a1 < 0 ∨ a1 > 10000000) :
  Calls Try.prog 26 #[.slice A0 l0.length c0, .int .i64 a1] w fun e w' => e = .returned (.tuple #[.agg #[.bool false, .int .i64 0, .int .i64 0, .slice none 0 0], .int .i64 2]) ∧ Below w.heap.size w w' := by
 have HR := Aside0.mk hr0
 have HT := Aside0.mk ht
 clear hr0 ht
 rcases (by omega : a1 < 0 ∨ (¬ a1 < 0 ∧ 10000000 < a1)) with hlo | ⟨hlo, hhi⟩
 ·have hz1 : decide (a1 < 0) = true := decide_eq_true hlo
  clear hz
  go_enter Try.func26, Try.ntmps26
  go_wp2_with (first
   | ((with_reducible refine gate_dst (N := 4) rfl ?_); refine box_event ?hg (N := 4) ?hd (cs := #[.bool false, .int .i64 0, .int .i64 0, .slice none 0 0]) (t := 66) ?hr ?_; (case hd => rfl); (case hg => rfl); (case hr => first | (go_simp; done) | (go_simp; rfl)); intro h hh w1 hbox hb; have BK := Aside0.mk hbox; have HB := Aside0.mk hb; have HH := Aside0.mk hh; clear hb hbox hh)
   | (go_at_call 35; refine (clock_Check.calls k A0 c0 l0 0 _ (Kd.C_below HR.out HB.out) hc0 HT.out).mono ?_; rintro e w2 ⟨rfl, hb2⟩; have BK2 := Aside0.mk (blk_below BK.out hb2); have HB2 := Aside0.mk (below_step HB.out hb2); clear hb2 BK HB; have c0_ : w2.cell? ⟨h, 0, none⟩ = some (.bool false) := (blk_cell BK2.out 0).trans rfl; have c1_ : w2.cell? ⟨h, 1, none⟩ = some (.int .i64 0) := (blk_cell BK2.out 1).trans rfl; have c2_ : w2.cell? ⟨h, 2, none⟩ = some (.int .i64 0) := (blk_cell BK2.out 2).trans rfl; have c3_ : w2.cell? ⟨h, 3, none⟩ = some (.slice none 0 0) := (blk_cell BK2.out 3).trans rfl; have z0_ := blk_frozen BK2.out 0; have z1_ := blk_frozen BK2.out 1; have z2_ := blk_frozen BK2.out 2; have z3_ := blk_frozen BK2.out 3))
  refine bodyPost_ret (results_ct rfl _ _ h 66 #[.bool false, .int .i64 0, .int .i64 0, .slice none 0 0] (0, 0) _ rfl (blk_put4 BK2.out _ _ _ _) Try.underlying66 rfl (by kernel_rfl)) rfl ?_
  have hle := Nat.le_of_eq HH.out.symm
  exact ⟨rfl, (((HB2.out.setCell (p := ⟨h, 0, none⟩) hle _).setCell (p := ⟨h, 1, none⟩) hle _).setCell (p := ⟨h, 2, none⟩) hle _).setCell (p := ⟨h, 3, none⟩) hle _⟩
 ·have hz1 : decide (a1 < 0) = false := decide_eq_false hlo
  have hz2 : decide (10000000 < a1) = true := decide_eq_true hhi
  clear hz
  go_enter Try.func26, Try.ntmps26
  go_wp2_with (first
   | ((with_reducible refine gate_dst (N := 4) rfl ?_); refine box_event ?hg (N := 4) ?hd (cs := #[.bool false, .int .i64 0, .int .i64 0, .slice none 0 0]) (t := 66) ?hr ?_; (case hd => rfl); (case hg => rfl); (case hr => first | (go_simp; done) | (go_simp; rfl)); intro h hh w1 hbox hb; have BK := Aside0.mk hbox; have HB := Aside0.mk hb; have HH := Aside0.mk hh; clear hb hbox hh)
   | (go_at_call 35; refine (clock_Check.calls k A0 c0 l0 0 _ (Kd.C_below HR.out HB.out) hc0 HT.out).mono ?_; rintro e w2 ⟨rfl, hb2⟩; have BK2 := Aside0.mk (blk_below BK.out hb2); have HB2 := Aside0.mk (below_step HB.out hb2); clear hb2 BK HB; have c0_ : w2.cell? ⟨h, 0, none⟩ = some (.bool false) := (blk_cell BK2.out 0).trans rfl; have c1_ : w2.cell? ⟨h, 1, none⟩ = some (.int .i64 0) := (blk_cell BK2.out 1).trans rfl; have c2_ : w2.cell? ⟨h, 2, none⟩ = some (.int .i64 0) := (blk_cell BK2.out 2).trans rfl; have c3_ : w2.cell? ⟨h, 3, none⟩ = some (.slice none 0 0) := (blk_cell BK2.out 3).trans rfl; have z0_ := blk_frozen BK2.out 0; have z1_ := blk_frozen BK2.out 1; have z2_ := blk_frozen BK2.out 2; have z3_ := blk_frozen BK2.out 3))
  refine bodyPost_ret (results_ct rfl _ _ h 66 #[.bool false, .int .i64 0, .int .i64 0, .slice none 0 0] (0, 0) _ rfl (blk_put4 BK2.out _ _ _ _) Try.underlying66 rfl (by kernel_rfl)) rfl ?_
  have hle := Nat.le_of_eq HH.out.symm
  exact ⟨rfl, (((HB2.out.setCell (p := ⟨h, 0, none⟩) hle _).setCell (p := ⟨h, 1, none⟩) hle _).setCell (p := ⟨h, 2, none⟩) hle _).setCell (p := ⟨h, 3, none⟩) hle _⟩
theorem R70_some {w : World} {base : Nat} {ok : Nat → Prop} {A : Option Addr} {n c : Nat} {xs : List S70} (h : Kd.R k70 70 w base ok (.slice A n c) xs) (hn : 0 < n) : ∃ b, A = some ⟨b, 0, none⟩ := by
 obtain ⟨_, inner, ho, hr⟩ := h
 rcases ho.2 with ⟨hv, _⟩ | ⟨g', cap', cur, hv, _⟩
 ·injection hv with h1 h2 h3; omega
 ·injection hv with h1 h2 h3; exact ⟨g', h1⟩
set_option maxHeartbeats 4000000 in
set_option maxRecDepth 100000 in
theorem clock_Report_run (k : Nat) (A0 : Option Addr) (c0 : Nat) (l0 : List S70) (a1 : Int) (w : World) (hr0 : Kd.C k70 w A0 l0.length l0) (hc0 : l0.length ≤ c0) (ht : clock_Check.f k l0 = some 0) (h0 : ¬ a1 < 0) (h1 : ¬ 10000000 < a1) (r : Bool × Int × Int × List S72 × Int) (hr : clock_run a1 (l0 ++ [⟨-1, a1, 0⟩]) (false, 0, 0, ([] : List S72), 0) = r) :
  Calls Try.prog 26 #[.slice A0 l0.length c0, .int .i64 a1] w fun e w' => ∃ v3_ : Value, e = .returned (.tuple #[.agg #[.bool r.1, .int .i64 r.2.1, .int .i64 r.2.2.1, v3_], .int .i64 0]) ∧ Kd.R k72 72 w' w.heap.size (fun _ => True) v3_ r.2.2.2.1 ∧ Below w.heap.size w w' := by
 have HR := Aside0.mk hr0
 have HT := Aside0.mk ht
 have hlen := clock_Check_len ht
 have HLEN := Aside0.mk hlen
 have HCL := Aside0.mk (show api_ClockEvent.f l0 = some l0 by unfold api_ClockEvent.f; rw [if_pos (by omega)])
 have hz1 : decide (a1 < 0) = false := decide_eq_false h0
 have hz2 : decide (10000000 < a1) = false := decide_eq_false h1
 obtain ⟨evs, hevs⟩ : ∃ evs : List S70, evs = l0 ++ [⟨-1, a1, 0⟩] := ⟨_, rfl⟩
 rw [← hevs] at hr
 have HE := Aside0.mk hevs
 have HRU := Aside0.mk hr
 have HEL := Aside0.mk (show evs.length = l0.length + 1 by rw [hevs]; simp)
 clear hr0 ht hlen h0 h1 hevs hr
 go_enter Try.func26, Try.ntmps26
 go_wp2_with (first
  | ((with_reducible refine gate_dst (N := 4) rfl ?_); refine box_event ?hg (N := 4) ?hd (cs := #[.bool false, .int .i64 0, .int .i64 0, .slice none 0 0]) (t := 66) ?hr ?_; (case hd => rfl); (case hg => rfl); (case hr => first | (go_simp; done) | (go_simp; rfl)); intro h hh w1 hbox hb; have BH := Aside0.mk hbox; have HB := Aside0.mk hb; have HH := Aside0.mk (Nat.le_of_eq hh.symm); clear hb hbox hh)
  | (go_at_call 35; refine (clock_Check.calls k A0 c0 l0 0 _ (Kd.C_below HR.out HB.out) hc0 HT.out).mono ?_; rintro e w2 ⟨rfl, hb2⟩; have BH2 := Aside0.mk (blk_below BH.out hb2); have HB2 := Aside0.mk (below_step HB.out hb2); clear hb2 BH HB)
  | ((with_reducible refine gate_dst (N := 7) rfl ?_); refine box_event ?hg (N := 7) ?hd (cs := #[.bool false, .int .i64 0, .int .i64 0, .slice none 0 0]) (t := 66) ?hr ?_; (case hd => rfl); (case hg => rfl); (case hr => first | (go_simp; done) | (go_simp; rfl)); intro g hh w3 hbox hb; have BG := Aside0.mk hbox; have BH3 := Aside0.mk (blk_below BH2.out hb); have HB3 := Aside0.mk (below_step HB2.out hb); have HG := Aside0.mk (show w.heap.size ≤ g by rw [hh]; exact below_size HB2.out); have HN := Aside0.mk (show g ≠ h by have := blk_lt BH2.out; omega); clear hb hbox hh BH2 HB2)
  | (go_at_call 36; refine (api_ClockEvent.calls A0 c0 l0 l0 _ (Kd.C_below HR.out HB3.out) hc0 HCL.out).mono ?_; rintro e w4 ⟨v26, rfl, ho, hb⟩; have HO4 := Aside0.mk (Kd.R_lower ho (below_size HB3.out)); have BG4 := Aside0.mk (blk_below BG.out hb); have BH4 := Aside0.mk (blk_below BH3.out hb); have HB4 := Aside0.mk (below_step HB3.out hb); clear ho hb BG BH3 HB3)
  | (at_builtin; refine Kd.R_append k70 (w0 := w) w.heap.size rfl (.tmp 26) (.tmp 29) 62 70 (.agg #[(.int .i64 0), (.int .i64 0), (.int .i64 0)]) 24 rfl Try.underlying62 info70 rfl (by decide) (by omega) v26 l0 (⟨-1, a1, 0⟩ : S70) [.int .i64 (-1), .int .i64 a1, .int .i64 0] (fun _ => True) (fun _ => False) rfl rfl ?aP (fun _ hk => hk.elim) ?aF ?aO ?aB ?aS ?aL ?_; (case aP => exact k70_mkM _ _ _ (⟨-1, a1, 0⟩ : S70)); (case aB => exact HB4.out); (case aF => exact (fun _ _ => trivial)); (case aO => exact HO4.out); (case aS => exact below_size HB4.out); (case aL => have := HLEN.out; omega); intro v30 w5 ho hb hg hat; rw [← HE.out] at ho; have HC := Aside0.mk (show Clk w5 w.heap.size g h w5 false 0 0 (.slice none 0 0) [] from ⟨blk_grown BG4.out hg (Kd.R_ne HO4.out BG4.out (by decide)), blk_grown BH4.out hg (Kd.R_ne HO4.out BH4.out (by decide)), Kd.R_nil _ _ _ _ _, fun _ _ h => h, HG.out, HH.out, HN.out⟩); have HEV := Aside0.mk ho; have HB5 := Aside0.mk hb; obtain ⟨A, c, rfl, _⟩ := Kd.R_reads ho; clear ho hb hg hat BG4 BH4 HO4 HB4))
 go_loopg [8, 32] evs.length (fun kq v8 v32 wr => ∃ (i : Nat) (run : Bool) (total slide : Int) (sv : Value) (sl : List S72) (last : Int), i + kq = evs.length ∧ v8 = .int .i64 last ∧ v32 = .int .i64 i ∧ Aside0 (clock_run a1 (evs.drop i) (run, total, slide, sl, last) = r) ∧ Aside0 (sl.length ≤ i) ∧ Aside0 (Kd.R k70 70 wr w.heap.size (fun _ => True) (.slice A evs.length c) evs) ∧ Aside0 (Clk wr w.heap.size g h wr run total slide sv sl) ∧ Aside0 (Below w.heap.size w wr))
 case atStart => exact ⟨0, false, 0, 0, .slice none 0 0, [], 0, by omega, rfl, rfl, by rw [List.drop_zero]; exact HRU, ⟨by simp⟩, HEV, HC, HB5⟩
 case round =>
  clear HC HB5 HRU HEV
  obtain ⟨i, run, total, slide, sv, sl, last, hi, rfl, rfl, HRU, HSL, HEV, HC, HB⟩ := hrel
  cases gk with
  | zero =>
   have hie : i = evs.length := by omega
   have hd : evs.drop i = [] := by rw [hie]; exact List.drop_length
   have hr := HRU.out
   rw [hd] at hr
   obtain rfl : (run, total, slide, sl, last) = r := hr
   obtain ⟨As, cs, rfl, _⟩ := Kd.R_reads HC.out.own
   have f0 := HC.out.f0
   have f1 := HC.out.f1
   have f2 := HC.out.f2
   have f3 := HC.out.f3
   have c0_ : wr.cell? ⟨h, 0, none⟩ = some (.bool false) := (blk_cell HC.out.res 0).trans rfl
   have c1_ : wr.cell? ⟨h, 1, none⟩ = some (.int .i64 0) := (blk_cell HC.out.res 1).trans rfl
   have c2_ : wr.cell? ⟨h, 2, none⟩ = some (.int .i64 0) := (blk_cell HC.out.res 2).trans rfl
   have c3_ : wr.cell? ⟨h, 3, none⟩ = some (.slice none 0 0) := (blk_cell HC.out.res 3).trans rfl
   have z0_ := blk_frozen HC.out.res 0
   have z1_ := blk_frozen HC.out.res 1
   have z2_ := blk_frozen HC.out.res 2
   have z3_ := blk_frozen HC.out.res 3
   clear hd
   go_wp2
   refine bodyPost_ret (results_ct rfl _ _ h 66 #[.bool run, .int .i64 total, .int .i64 slide, .slice As sl.length cs] (0, 0) _ rfl (blk_put4 HC.out.res _ _ _ _) Try.underlying66 rfl (by kernel_rfl)) rfl ?_
   have hle := HC.out.he
   exact ⟨_, rfl, Kd.R_mono (Kd.R_far (p := ⟨h, 3, none⟩) (Kd.R_far (p := ⟨h, 2, none⟩) (Kd.R_far (p := ⟨h, 1, none⟩) (Kd.R_far (p := ⟨h, 0, none⟩) HC.out.own (fun k hk => hk.2) _) (fun k hk => hk.2) _) (fun k hk => hk.2) _) (fun k hk => hk.2) _) (fun _ _ => trivial), (((HB.out.setCell (p := ⟨h, 0, none⟩) hle _).setCell (p := ⟨h, 1, none⟩) hle _).setCell (p := ⟨h, 2, none⟩) hle _).setCell (p := ⟨h, 3, none⟩) hle _⟩
  | succ k1 =>
   have hlt : i < evs.length := by omega
   obtain ⟨b, rfl⟩ : ∃ b, A = some ⟨b, 0, none⟩ := R70_some HEV.out (by omega)
   have hwr : wrap64 ((i : Int) + 1) = ((i + 1 : Nat) : Int) := by have h1 := HLEN.out; have h2 := HEL.out; rw [show wrap64 ((i : Int) + 1) = (i : Int) + 1 by unfold wrap64; omega]; omega
   obtain ⟨ce, hcl, hM, hcc, hfz⟩ := Kd.R_elem HEV.out z70 (i : Int) (by omega) (by omega)
   obtain rfl := k70_openM hM
   obtain ⟨x, hx⟩ : ∃ x, x = evs[i] := ⟨_, rfl⟩
   have hgx : evs.getD (i : Int).toNat z70 = x := by rw [hx, Int.toNat_natCast, List.getD_eq_getElem?_getD, List.getElem?_eq_getElem hlt]; rfl
   rw [hgx] at hcc
   have e0 : wr.cell? ⟨b, i * 3, none⟩ = some (.int .i64 x.f0) := by have := hcc 0 _ rfl; rwa [Int.toNat_natCast] at this
   have e1 : wr.cell? ⟨b, i * 3 + 1, none⟩ = some (.int .i64 x.f1) := by have := hcc 1 _ rfl; rwa [Int.toNat_natCast] at this
   have e2 : wr.cell? ⟨b, i * 3 + 2, none⟩ = some (.int .i64 x.f2) := by have := hcc 2 _ rfl; rwa [Int.toNat_natCast] at this
   have HST := Aside0.mk (show clock_run a1 (evs.drop (i + 1)) (clock_step a1 x (run, total, slide, sl, last)) = r by
    have := HRU.out
    rwa [List.drop_eq_getElem_cons hlt, ← hx] at this)
   have HI := Aside0.mk hi
   clear hcl hM hcc hfz hgx hx HRU hi
   have HSL1 := Aside0.mk (show ∀ q : Int, (if run then sl.map (pass1 slide q) else sl).length ≤ i from fun q => by split <;> simp [HSL.out])
   have HSL2 := Aside0.mk (show ∀ q : Int, (if run then sl.map (pass1 slide q) else sl).length < 5864062014805 from fun q => by have := HSL1.out q; have := HLEN.out; have := HEL.out; omega)
   by_cases hat : a1 < x.f1
   ·have hmn : mn x.f1 a1 = a1 := by unfold mn; rw [if_pos hat]
    have hb1 : decide (a1 < x.f1) = true := decide_eq_true hat
    have HS2 := Aside0.mk (by have := HST.out; unfold clock_step at this; simp only [hmn, if_pos hat, gt_iff_lt] at this; exact this)
    clear HST
    go_wp2_with (first
     | ((with_reducible refine gate_dst (N := 10) rfl ?_); refine box_event ?hg (N := 10) ?hd (cs := #[.int .i64 0, .int .i64 0, .int .i64 0]) (t := 70) ?hr ?_; (case hd => rfl); (case hg => rfl); (case hr => first | (go_simp; done) | (go_simp; rfl)); intro y hy w1 hbox hb; have q0 : w1.cell? ⟨y, 0, none⟩ = some (.int .i64 0) := (blk_cell hbox 0).trans rfl; have q1 : w1.cell? ⟨y, 1, none⟩ = some (.int .i64 0) := (blk_cell hbox 1).trans rfl; have q2 : w1.cell? ⟨y, 2, none⟩ = some (.int .i64 0) := (blk_cell hbox 2).trans rfl; have zq0 := blk_frozen hbox 0; have zq1 := blk_frozen hbox 1; have zq2 := blk_frozen hbox 2; have HBW := Aside0.mk (show Below wr.heap.size wr (((w1.setCell ⟨y, 0, none⟩ (.int .i64 x.f0)).setCell ⟨y, 1, none⟩ (.int .i64 x.f1)).setCell ⟨y, 2, none⟩ (.int .i64 x.f2)) from (((hb.setCell (p := ⟨y, 0, none⟩) (Nat.le_of_eq hy.symm) _).setCell (p := ⟨y, 1, none⟩) (Nat.le_of_eq hy.symm) _).setCell (p := ⟨y, 2, none⟩) (Nat.le_of_eq hy.symm) _)); have BX := Aside0.mk (blk_put (cs := #[.int .i64 x.f0, .int .i64 x.f1, .int .i64 0]) (blk_put (cs := #[.int .i64 x.f0, .int .i64 0, .int .i64 0]) (blk_put hbox 0 (.int .i64 x.f0) rfl) 1 (.int .i64 x.f1) rfl) 2 (.int .i64 x.f2) rfl); have HCX := Aside0.mk (HC.out.below HBW.out).self; have HBX := Aside0.mk (below_step HB.out HBW.out); have HEX := Aside0.mk (Kd.R_below HEV.out HBW.out); clear hbox hb hy HBW)
     | (go_at_call 37; refine (clock_pass.calls w.heap.size g h _ run total slide sv sl _ w _ HCX.out HBX.out).mono ?_; rintro e w5 ⟨rfl, hc, hb⟩; have HC5 := Aside0.mk hc.self; have HB5 := Aside0.mk hb; have HEV5 := Aside0.mk (hc.evr.row HEX.out); have BX5 := hc.evr _ _ BX.out; have x0 : w5.cell? ⟨y, 0, none⟩ = some (.int .i64 x.f0) := (blk_cell BX5 0).trans rfl; have x1 : w5.cell? ⟨y, 1, none⟩ = some (.int .i64 x.f1) := (blk_cell BX5 1).trans rfl; have x2 : w5.cell? ⟨y, 2, none⟩ = some (.int .i64 x.f2) := (blk_cell BX5 2).trans rfl; have g0 := hc.f0; have y0 := hc.fz 0; clear hc hb BX5 HCX HBX HEX BX))
    go_roundg k1
    case measure => omega
    case rel => exact ⟨i + 1, run, _, slide, sv, _, a1, by have := HI.out; omega, rfl, by go_num, HS2, ⟨Nat.le_succ_of_le (HSL1.out _)⟩, HEV5, HC5, HB5⟩
   ·have hmn : mn x.f1 a1 = x.f1 := by unfold mn; rw [if_neg hat]
    have hb1 : decide (a1 < x.f1) = false := decide_eq_false hat
    have hat' : ¬ x.f1 > a1 := hat
    by_cases h0 : x.f0 = 0
    ·have kk0 : (x.f0 == 0) = true := beq_iff_eq.mpr h0
     have HS2 := Aside0.mk (by have := HST.out; unfold clock_step at this; simp only [hmn, if_neg hat', if_pos h0] at this; exact this)
     clear HST h0
     go_wp2_with (first
      | ((with_reducible refine gate_dst (N := 10) rfl ?_); refine box_event ?hg (N := 10) ?hd (cs := #[.int .i64 0, .int .i64 0, .int .i64 0]) (t := 70) ?hr ?_; (case hd => rfl); (case hg => rfl); (case hr => first | (go_simp; done) | (go_simp; rfl)); intro y hy w1 hbox hb; have q0 : w1.cell? ⟨y, 0, none⟩ = some (.int .i64 0) := (blk_cell hbox 0).trans rfl; have q1 : w1.cell? ⟨y, 1, none⟩ = some (.int .i64 0) := (blk_cell hbox 1).trans rfl; have q2 : w1.cell? ⟨y, 2, none⟩ = some (.int .i64 0) := (blk_cell hbox 2).trans rfl; have zq0 := blk_frozen hbox 0; have zq1 := blk_frozen hbox 1; have zq2 := blk_frozen hbox 2; have HBW := Aside0.mk (show Below wr.heap.size wr (((w1.setCell ⟨y, 0, none⟩ (.int .i64 x.f0)).setCell ⟨y, 1, none⟩ (.int .i64 x.f1)).setCell ⟨y, 2, none⟩ (.int .i64 x.f2)) from (((hb.setCell (p := ⟨y, 0, none⟩) (Nat.le_of_eq hy.symm) _).setCell (p := ⟨y, 1, none⟩) (Nat.le_of_eq hy.symm) _).setCell (p := ⟨y, 2, none⟩) (Nat.le_of_eq hy.symm) _)); have BX := Aside0.mk (blk_put (cs := #[.int .i64 x.f0, .int .i64 x.f1, .int .i64 0]) (blk_put (cs := #[.int .i64 x.f0, .int .i64 0, .int .i64 0]) (blk_put hbox 0 (.int .i64 x.f0) rfl) 1 (.int .i64 x.f1) rfl) 2 (.int .i64 x.f2) rfl); have HCX := Aside0.mk (HC.out.below HBW.out).self; have HBX := Aside0.mk (below_step HB.out HBW.out); have HEX := Aside0.mk (Kd.R_below HEV.out HBW.out); clear hbox hb hy HBW)
      | (go_at_call 37; refine (clock_pass.calls w.heap.size g h _ run total slide sv sl _ w _ HCX.out HBX.out).mono ?_; rintro e w5 ⟨rfl, hc, hb⟩; have HC5 := Aside0.mk hc.self; have HB5 := Aside0.mk hb; have HEV5 := Aside0.mk (hc.evr.row HEX.out); have BX5 := hc.evr _ _ BX.out; have x0 : w5.cell? ⟨y, 0, none⟩ = some (.int .i64 x.f0) := (blk_cell BX5 0).trans rfl; have x1 : w5.cell? ⟨y, 1, none⟩ = some (.int .i64 x.f1) := (blk_cell BX5 1).trans rfl; have x2 : w5.cell? ⟨y, 2, none⟩ = some (.int .i64 x.f2) := (blk_cell BX5 2).trans rfl; have g0 := hc.f0; have y0 := hc.fz 0; clear hc hb BX5 HCX HBX HEX BX))
     go_roundg k1
     case measure => omega
     case rel => exact ⟨i + 1, true, _, slide, sv, _, x.f1, by have := HI.out; omega, rfl, by go_num, HS2, ⟨Nat.le_succ_of_le (HSL1.out _)⟩, ⟨(HC5.out.put 0 (.bool true) (run' := true) rfl).evr.row HEV5.out⟩, ⟨(HC5.out.put 0 (.bool true) (run' := true) rfl).self⟩, ⟨HB5.out.setCell (p := ⟨g, 0, none⟩) HC5.out.ge _⟩⟩
    ·by_cases h1 : x.f0 = 1
     ·have kk0 : (x.f0 == 0) = false := beq_eq_false_iff_ne.mpr h0
      have kk1 : (x.f0 == 1) = true := beq_iff_eq.mpr h1
      have HS2 := Aside0.mk (by have := HST.out; unfold clock_step at this; simp only [hmn, if_neg hat', if_neg h0, if_pos (Or.inl h1 : x.f0 = 1 ∨ x.f0 = 3)] at this; exact this)
      clear HST h1
      go_wp2_with (first
       | ((with_reducible refine gate_dst (N := 10) rfl ?_); refine box_event ?hg (N := 10) ?hd (cs := #[.int .i64 0, .int .i64 0, .int .i64 0]) (t := 70) ?hr ?_; (case hd => rfl); (case hg => rfl); (case hr => first | (go_simp; done) | (go_simp; rfl)); intro y hy w1 hbox hb; have q0 : w1.cell? ⟨y, 0, none⟩ = some (.int .i64 0) := (blk_cell hbox 0).trans rfl; have q1 : w1.cell? ⟨y, 1, none⟩ = some (.int .i64 0) := (blk_cell hbox 1).trans rfl; have q2 : w1.cell? ⟨y, 2, none⟩ = some (.int .i64 0) := (blk_cell hbox 2).trans rfl; have zq0 := blk_frozen hbox 0; have zq1 := blk_frozen hbox 1; have zq2 := blk_frozen hbox 2; have HBW := Aside0.mk (show Below wr.heap.size wr (((w1.setCell ⟨y, 0, none⟩ (.int .i64 x.f0)).setCell ⟨y, 1, none⟩ (.int .i64 x.f1)).setCell ⟨y, 2, none⟩ (.int .i64 x.f2)) from (((hb.setCell (p := ⟨y, 0, none⟩) (Nat.le_of_eq hy.symm) _).setCell (p := ⟨y, 1, none⟩) (Nat.le_of_eq hy.symm) _).setCell (p := ⟨y, 2, none⟩) (Nat.le_of_eq hy.symm) _)); have BX := Aside0.mk (blk_put (cs := #[.int .i64 x.f0, .int .i64 x.f1, .int .i64 0]) (blk_put (cs := #[.int .i64 x.f0, .int .i64 0, .int .i64 0]) (blk_put hbox 0 (.int .i64 x.f0) rfl) 1 (.int .i64 x.f1) rfl) 2 (.int .i64 x.f2) rfl); have HCX := Aside0.mk (HC.out.below HBW.out).self; have HBX := Aside0.mk (below_step HB.out HBW.out); have HEX := Aside0.mk (Kd.R_below HEV.out HBW.out); clear hbox hb hy HBW)
       | (go_at_call 37; refine (clock_pass.calls w.heap.size g h _ run total slide sv sl _ w _ HCX.out HBX.out).mono ?_; rintro e w5 ⟨rfl, hc, hb⟩; have HC5 := Aside0.mk hc.self; have HB5 := Aside0.mk hb; have HEV5 := Aside0.mk (hc.evr.row HEX.out); have BX5 := hc.evr _ _ BX.out; have x0 : w5.cell? ⟨y, 0, none⟩ = some (.int .i64 x.f0) := (blk_cell BX5 0).trans rfl; have x1 : w5.cell? ⟨y, 1, none⟩ = some (.int .i64 x.f1) := (blk_cell BX5 1).trans rfl; have x2 : w5.cell? ⟨y, 2, none⟩ = some (.int .i64 x.f2) := (blk_cell BX5 2).trans rfl; have g0 := hc.f0; have y0 := hc.fz 0; clear hc hb BX5 HCX HBX HEX BX))
      go_roundg k1
      case measure => omega
      case rel => exact ⟨i + 1, false, _, slide, sv, _, x.f1, by have := HI.out; omega, rfl, by go_num, HS2, ⟨Nat.le_succ_of_le (HSL1.out _)⟩, ⟨(HC5.out.put 0 (.bool false) (run' := false) rfl).evr.row HEV5.out⟩, ⟨(HC5.out.put 0 (.bool false) (run' := false) rfl).self⟩, ⟨HB5.out.setCell (p := ⟨g, 0, none⟩) HC5.out.ge _⟩⟩
     ·by_cases h3 : x.f0 = 3
      ·have kk0 : (x.f0 == 0) = false := beq_eq_false_iff_ne.mpr h0
       have kk1 : (x.f0 == 1) = false := beq_eq_false_iff_ne.mpr h1
       have kk3 : (x.f0 == 3) = true := beq_iff_eq.mpr h3
       have HS2 := Aside0.mk (by have := HST.out; unfold clock_step at this; simp only [hmn, if_neg hat', if_neg h0, if_pos (Or.inr h3 : x.f0 = 1 ∨ x.f0 = 3)] at this; exact this)
       clear HST h3
       go_wp2_with (first
        | ((with_reducible refine gate_dst (N := 10) rfl ?_); refine box_event ?hg (N := 10) ?hd (cs := #[.int .i64 0, .int .i64 0, .int .i64 0]) (t := 70) ?hr ?_; (case hd => rfl); (case hg => rfl); (case hr => first | (go_simp; done) | (go_simp; rfl)); intro y hy w1 hbox hb; have q0 : w1.cell? ⟨y, 0, none⟩ = some (.int .i64 0) := (blk_cell hbox 0).trans rfl; have q1 : w1.cell? ⟨y, 1, none⟩ = some (.int .i64 0) := (blk_cell hbox 1).trans rfl; have q2 : w1.cell? ⟨y, 2, none⟩ = some (.int .i64 0) := (blk_cell hbox 2).trans rfl; have zq0 := blk_frozen hbox 0; have zq1 := blk_frozen hbox 1; have zq2 := blk_frozen hbox 2; have HBW := Aside0.mk (show Below wr.heap.size wr (((w1.setCell ⟨y, 0, none⟩ (.int .i64 x.f0)).setCell ⟨y, 1, none⟩ (.int .i64 x.f1)).setCell ⟨y, 2, none⟩ (.int .i64 x.f2)) from (((hb.setCell (p := ⟨y, 0, none⟩) (Nat.le_of_eq hy.symm) _).setCell (p := ⟨y, 1, none⟩) (Nat.le_of_eq hy.symm) _).setCell (p := ⟨y, 2, none⟩) (Nat.le_of_eq hy.symm) _)); have BX := Aside0.mk (blk_put (cs := #[.int .i64 x.f0, .int .i64 x.f1, .int .i64 0]) (blk_put (cs := #[.int .i64 x.f0, .int .i64 0, .int .i64 0]) (blk_put hbox 0 (.int .i64 x.f0) rfl) 1 (.int .i64 x.f1) rfl) 2 (.int .i64 x.f2) rfl); have HCX := Aside0.mk (HC.out.below HBW.out).self; have HBX := Aside0.mk (below_step HB.out HBW.out); have HEX := Aside0.mk (Kd.R_below HEV.out HBW.out); clear hbox hb hy HBW)
        | (go_at_call 37; refine (clock_pass.calls w.heap.size g h _ run total slide sv sl _ w _ HCX.out HBX.out).mono ?_; rintro e w5 ⟨rfl, hc, hb⟩; have HC5 := Aside0.mk hc.self; have HB5 := Aside0.mk hb; have HEV5 := Aside0.mk (hc.evr.row HEX.out); have BX5 := hc.evr _ _ BX.out; have x0 : w5.cell? ⟨y, 0, none⟩ = some (.int .i64 x.f0) := (blk_cell BX5 0).trans rfl; have x1 : w5.cell? ⟨y, 1, none⟩ = some (.int .i64 x.f1) := (blk_cell BX5 1).trans rfl; have x2 : w5.cell? ⟨y, 2, none⟩ = some (.int .i64 x.f2) := (blk_cell BX5 2).trans rfl; have g0 := hc.f0; have y0 := hc.fz 0; clear hc hb BX5 HCX HBX HEX BX))
       go_roundg k1
       case measure => omega
       case rel => exact ⟨i + 1, false, _, slide, sv, _, x.f1, by have := HI.out; omega, rfl, by go_num, HS2, ⟨Nat.le_succ_of_le (HSL1.out _)⟩, ⟨(HC5.out.put 0 (.bool false) (run' := false) rfl).evr.row HEV5.out⟩, ⟨(HC5.out.put 0 (.bool false) (run' := false) rfl).self⟩, ⟨HB5.out.setCell (p := ⟨g, 0, none⟩) HC5.out.ge _⟩⟩
      ·have h13 : ¬ (x.f0 = 1 ∨ x.f0 = 3) := fun h => h.elim h1 h3
       by_cases h2 : x.f0 = 2
       ·have kk0 : (x.f0 == 0) = false := beq_eq_false_iff_ne.mpr h0
        have kk1 : (x.f0 == 1) = false := beq_eq_false_iff_ne.mpr h1
        have kk3 : (x.f0 == 3) = false := beq_eq_false_iff_ne.mpr h3
        have kk2 : (x.f0 == 2) = true := beq_iff_eq.mpr h2
        have HS2 := Aside0.mk (by have := HST.out; unfold clock_step at this; simp only [hmn, if_neg hat', if_neg h0, if_neg h13, if_pos h2] at this; exact this)
        clear HST h2
        go_wp2_with (first
         | ((with_reducible refine gate_dst (N := 10) rfl ?_); refine box_event ?hg (N := 10) ?hd (cs := #[.int .i64 0, .int .i64 0, .int .i64 0]) (t := 70) ?hr ?_; (case hd => rfl); (case hg => rfl); (case hr => first | (go_simp; done) | (go_simp; rfl)); intro y hy w1 hbox hb; have q0 : w1.cell? ⟨y, 0, none⟩ = some (.int .i64 0) := (blk_cell hbox 0).trans rfl; have q1 : w1.cell? ⟨y, 1, none⟩ = some (.int .i64 0) := (blk_cell hbox 1).trans rfl; have q2 : w1.cell? ⟨y, 2, none⟩ = some (.int .i64 0) := (blk_cell hbox 2).trans rfl; have zq0 := blk_frozen hbox 0; have zq1 := blk_frozen hbox 1; have zq2 := blk_frozen hbox 2; have HBW := Aside0.mk (show Below wr.heap.size wr (((w1.setCell ⟨y, 0, none⟩ (.int .i64 x.f0)).setCell ⟨y, 1, none⟩ (.int .i64 x.f1)).setCell ⟨y, 2, none⟩ (.int .i64 x.f2)) from (((hb.setCell (p := ⟨y, 0, none⟩) (Nat.le_of_eq hy.symm) _).setCell (p := ⟨y, 1, none⟩) (Nat.le_of_eq hy.symm) _).setCell (p := ⟨y, 2, none⟩) (Nat.le_of_eq hy.symm) _)); have BX := Aside0.mk (blk_put (cs := #[.int .i64 x.f0, .int .i64 x.f1, .int .i64 0]) (blk_put (cs := #[.int .i64 x.f0, .int .i64 0, .int .i64 0]) (blk_put hbox 0 (.int .i64 x.f0) rfl) 1 (.int .i64 x.f1) rfl) 2 (.int .i64 x.f2) rfl); have HCX := Aside0.mk (HC.out.below HBW.out).self; have HBX := Aside0.mk (below_step HB.out HBW.out); have HEX := Aside0.mk (Kd.R_below HEV.out HBW.out); clear hbox hb hy HBW)
         | (go_at_call 37; refine (clock_pass.calls w.heap.size g h _ run total slide sv sl _ w _ HCX.out HBX.out).mono ?_; rintro e w5 ⟨rfl, hc, hb⟩; have HC5 := Aside0.mk hc.self; have HB5 := Aside0.mk hb; have HEV5 := Aside0.mk (hc.evr.row HEX.out); have BX5 := hc.evr _ _ BX.out; have x0 : w5.cell? ⟨y, 0, none⟩ = some (.int .i64 x.f0) := (blk_cell BX5 0).trans rfl; have x1 : w5.cell? ⟨y, 1, none⟩ = some (.int .i64 x.f1) := (blk_cell BX5 1).trans rfl; have x2 : w5.cell? ⟨y, 2, none⟩ = some (.int .i64 x.f2) := (blk_cell BX5 2).trans rfl; have g0 := hc.f0; have y0 := hc.fz 0; clear hc hb BX5 HCX HBX HEX BX)
         | (go_at_call 38; refine (clock_show.calls w.heap.size g h _ run _ slide sv _ x.f2 w _ HC5.out HB5.out (below_size HB5.out) (HSL2.out _)).mono ?_; rintro e w6 ⟨rfl, ⟨sv6, hc⟩, hb⟩; have HC6 := Aside0.mk hc.self; have HB6 := Aside0.mk hb; have HEV6 := Aside0.mk (hc.evr.row HEV5.out); clear hc hb HC5 HB5 HEV5))
        go_roundg k1
        case measure => omega
        case rel => exact ⟨i + 1, run, _, x.f2, sv6, _, x.f1, by have := HI.out; omega, rfl, by go_num, HS2, ⟨Nat.le_trans (show1_len _ _ _) (Nat.succ_le_succ (HSL1.out _))⟩, HEV6, HC6, HB6⟩
       ·have kk0 : (x.f0 == 0) = false := beq_eq_false_iff_ne.mpr h0
        have kk1 : (x.f0 == 1) = false := beq_eq_false_iff_ne.mpr h1
        have kk3 : (x.f0 == 3) = false := beq_eq_false_iff_ne.mpr h3
        have kk2 : (x.f0 == 2) = false := beq_eq_false_iff_ne.mpr h2
        have HS2 := Aside0.mk (by have := HST.out; unfold clock_step at this; simp only [hmn, if_neg hat', if_neg h0, if_neg h13, if_neg h2] at this; exact this)
        clear HST
        go_wp2_with (first
         | ((with_reducible refine gate_dst (N := 10) rfl ?_); refine box_event ?hg (N := 10) ?hd (cs := #[.int .i64 0, .int .i64 0, .int .i64 0]) (t := 70) ?hr ?_; (case hd => rfl); (case hg => rfl); (case hr => first | (go_simp; done) | (go_simp; rfl)); intro y hy w1 hbox hb; have q0 : w1.cell? ⟨y, 0, none⟩ = some (.int .i64 0) := (blk_cell hbox 0).trans rfl; have q1 : w1.cell? ⟨y, 1, none⟩ = some (.int .i64 0) := (blk_cell hbox 1).trans rfl; have q2 : w1.cell? ⟨y, 2, none⟩ = some (.int .i64 0) := (blk_cell hbox 2).trans rfl; have zq0 := blk_frozen hbox 0; have zq1 := blk_frozen hbox 1; have zq2 := blk_frozen hbox 2; have HBW := Aside0.mk (show Below wr.heap.size wr (((w1.setCell ⟨y, 0, none⟩ (.int .i64 x.f0)).setCell ⟨y, 1, none⟩ (.int .i64 x.f1)).setCell ⟨y, 2, none⟩ (.int .i64 x.f2)) from (((hb.setCell (p := ⟨y, 0, none⟩) (Nat.le_of_eq hy.symm) _).setCell (p := ⟨y, 1, none⟩) (Nat.le_of_eq hy.symm) _).setCell (p := ⟨y, 2, none⟩) (Nat.le_of_eq hy.symm) _)); have BX := Aside0.mk (blk_put (cs := #[.int .i64 x.f0, .int .i64 x.f1, .int .i64 0]) (blk_put (cs := #[.int .i64 x.f0, .int .i64 0, .int .i64 0]) (blk_put hbox 0 (.int .i64 x.f0) rfl) 1 (.int .i64 x.f1) rfl) 2 (.int .i64 x.f2) rfl); have HCX := Aside0.mk (HC.out.below HBW.out).self; have HBX := Aside0.mk (below_step HB.out HBW.out); have HEX := Aside0.mk (Kd.R_below HEV.out HBW.out); clear hbox hb hy HBW)
         | (go_at_call 37; refine (clock_pass.calls w.heap.size g h _ run total slide sv sl _ w _ HCX.out HBX.out).mono ?_; rintro e w5 ⟨rfl, hc, hb⟩; have HC5 := Aside0.mk hc.self; have HB5 := Aside0.mk hb; have HEV5 := Aside0.mk (hc.evr.row HEX.out); have BX5 := hc.evr _ _ BX.out; have x0 : w5.cell? ⟨y, 0, none⟩ = some (.int .i64 x.f0) := (blk_cell BX5 0).trans rfl; have x1 : w5.cell? ⟨y, 1, none⟩ = some (.int .i64 x.f1) := (blk_cell BX5 1).trans rfl; have x2 : w5.cell? ⟨y, 2, none⟩ = some (.int .i64 x.f2) := (blk_cell BX5 2).trans rfl; have g0 := hc.f0; have y0 := hc.fz 0; clear hc hb BX5 HCX HBX HEX BX))
        go_roundg k1
        case measure => omega
        case rel => exact ⟨i + 1, run, _, slide, sv, _, x.f1, by have := HI.out; omega, rfl, by go_num, HS2, ⟨Nat.le_succ_of_le (HSL1.out _)⟩, HEV5, HC5, HB5⟩
theorem clock_Report.calls (k : Nat) (A0 : Option Addr) (c0 : Nat) (l0 : List S70) (a1 : Int) (r1 : Bool) (r2 r3 : Int) (r4 : List S72) (r5 : Int) (w : World) (hr0 : Kd.C k70 w A0 l0.length l0) (hc0 : l0.length ≤ c0) (h : clock_Report.f k l0 a1 = some (r1, r2, r3, r4, r5)) :
  Calls Try.prog 26 #[.slice A0 l0.length c0, .int .i64 a1] w fun e w' => ∃ v3_ : Value, e = .returned (.tuple #[.agg #[.bool r1, .int .i64 r2, .int .i64 r3, v3_], .int .i64 r5]) ∧ Kd.R k72 72 w' w.heap.size (fun _ => True) v3_ r4 ∧ Below w.heap.size w w' := by
 obtain ⟨t, ht, h⟩ := Option.bind_eq_some_iff.mp h
 by_cases hz : t = 0
 ·subst hz
  rw [if_pos rfl] at h
  by_cases ho : a1 < 0 ∨ a1 > 10000000
  ·rw [if_pos ho] at h
   simp only [Option.some.injEq, Prod.mk.injEq] at h
   obtain ⟨rfl, rfl, rfl, rfl, rfl⟩ := h
   refine (clock_Report_out k A0 c0 l0 a1 w hr0 hc0 ht ho).mono ?_
   rintro e w' ⟨rfl, hb⟩
   exact ⟨_, rfl, Kd.R_nil _ _ _ _ _, hb⟩
  ·rw [if_neg ho] at h
   simp only [Option.some.injEq, Prod.mk.injEq] at h
   obtain ⟨rfl, rfl, rfl, rfl, rfl⟩ := h
   exact clock_Report_run k A0 c0 l0 a1 w hr0 hc0 ht (fun x => ho (Or.inl x)) (fun x => ho (Or.inr x)) _ rfl
 ·rw [if_neg hz] at h
  simp only [Option.some.injEq, Prod.mk.injEq] at h
  obtain ⟨rfl, rfl, rfl, rfl, rfl⟩ := h
  refine (clock_Report_bad k A0 c0 l0 a1 t w hr0 hc0 ht hz).mono ?_
  rintro e w' ⟨rfl, hb⟩
  exact ⟨_, rfl, Kd.R_nil _ _ _ _ _, hb⟩

/-! ### ck_clocked: function 24 -/
def ck_clocked.f (k : Nat)  : Option (Bool) := (clock_Report.f k (([(⟨0, 5, 0⟩ : S70)] : List (S70))) 9).bind fun bt108 => (if bt108.2.2.2.2 = 0 then (if bt108.1 = true then (some (bt108.2.1 == 4)) else (some false)) else (some false))
theorem ck_clocked.mono : ∀ k, LeO (ck_clocked.f k ) (ck_clocked.f (k + 1) ) := by
 intro  k
 unfold ck_clocked.f
 repeat' first
   | (with_reducible exact clock_Report.mono _ _ _)
   | (with_reducible exact LeO.refl _)
   | (with_reducible exact LeO.none _)
   | (with_reducible refine LeO.ite ?_ ?_)
   | (with_reducible refine LeO.bind ?_ (fun _ => ?_))
   | exact clock_Report.mono _ _ _
   | exact LeO.none _
   | refine LeO.ite ?_ ?_
   | refine LeO.bind ?_ (fun _ => ?_)
set_option maxHeartbeats 8000000 in
set_option maxRecDepth 100000 in
theorem ck_clocked.calls (k : Nat)  (r : Bool) (w : World) (h : ck_clocked.f k  = some r) :
  Calls Try.prog 24 #[] w fun e w' => e = .returned (.bool r) ∧ Below w.heap.size w w' := by
 have hu70 := Try.underlying70
 have hu66 := Try.underlying66
 have HB := Aside0.mk (Below.refl w.heap.size w)
 have H : ((clock_Report.f k (([(⟨0, 5, 0⟩ : S70)] : List (S70))) 9).bind fun bt108 => (if bt108.2.2.2.2 = 0 then (if bt108.1 = true then (some (bt108.2.1 == 4)) else (some false)) else (some false))) = some r := h
 clear h
 obtain ⟨y105, hy105⟩ : ∃ y_ : List (S70), y_ = (([(⟨0, 5, 0⟩ : S70)] : List (S70))) := ⟨_, rfl⟩
 replace H : ((clock_Report.f k y105 9).bind fun bt108 => (if bt108.2.2.2.2 = 0 then (if bt108.1 = true then (some (bt108.2.1 == 4)) else (some false)) else (some false))) = some r := by first | (rw [hy105]; with_reducible exact H) | (have H2_ := (Option.bind_some _ _).symm.trans H; rw [hy105]; with_reducible exact H2_) | (have H2_ := (Option.bind_some _ _).symm.trans H; with_reducible exact H2_) | with_reducible exact H | (rw [hy105]; exact H) | exact H
 have Ny105 := Aside0.mk hy105
 clear hy105
 replace H := Option.bind_eq_some_iff.mp H
 obtain ⟨⟨t108, t109, t110, t111, t114⟩, A10, H⟩ := H
 replace H : (if t114 = 0 then (if t108 = true then (some (t109 == 4)) else (some false)) else (some false)) = some r := H
 have A1 := Aside0.mk A10
 clear A10
 by_cases c2 : t114 = 0
 ·rw [if_pos c2] at H
  have c2b0 : (t114 == 0) = true := beq_iff_eq.mpr c2
  have c2b1 : (t114 != 0) = false := bne_eq_false_iff_eq.mpr c2
  clear c2
  by_cases c3 : t108 = true
  ·subst c3
   have H1 : (some (t109 == 4)) = some r := by rw [if_pos rfl] at H; exact H
   clear H
   have H := H1
   clear H1
   obtain rfl := Option.some.inj H
   go_enter Try.func24, Try.ntmps24
   go_wp2_with (first | ((with_reducible refine gate_dst (N := 5) rfl ?_); refine Kd.R_lit k70 _ 70 ?hg (N := 5) ?hd (xs := ([(⟨0, 5, 0⟩ : S70)] : List (S70))) (inner := [.int .i64 0, .int .i64 5, .int .i64 0]) (ok := fun _ => True) (okp := fun _ => True) ?hr ?hp (fun _ hk => hk) trivial (Below.refl _ _) (Nat.le_refl _) (by simp) ?_; (case hd => rfl); (case hg => rfl); (case hr => first | (go_simp; done) | (go_simp; rfl)); (case hp => exact (Reps.c3 (show Kd.M k70 _ _ _ (⟨0, 5, 0⟩ : S70) [.int .i64 0, .int .i64 5, .int .i64 0] from (k70_mkM _ _ _ (⟨0, 5, 0⟩ : S70) )) (Reps.none _ _))); intro v106 w4 ho5 hb hg_ hnew_; clear hg_ hnew_; (first | rw [← Ny105.out] at ho5 | (simp only [Int.reduceToNat] at ho5; rw [← Ny105.out] at ho5)); have n0_ := Aside0.mk (Kd.R_lower ho5 (below_size (by repeat (first | (with_reducible first | exact HB.out | apply below_alloc | apply pw_below_drewN | apply below_drew1) | exact HB.out)))); have n1_ := Aside0.mk (below_step (by repeat (first | (with_reducible first | exact HB.out | apply below_alloc | apply pw_below_drewN | apply below_drew1) | exact HB.out)) hb); clear HB; have HO107 := n0_; have HB := n1_; clear n0_ n1_; clear hb ho5; obtain ⟨Ao6, co6, eo6⟩ := Kd.R_slice HO107.out; subst eo6) | ((with_reducible refine gate_callee (f := 26) rfl ?_); refine goesL_ (some 6) rfl rfl Try.func26 (by kernel_rfl) rfl #[.slice Ao6 y105.length co6, .int .i64 9] rfl (by (try simp only [List.map_toArray, List.map_cons, List.map_nil]); first | done | rfl | (simp only [List.length_drop, List.length_take]; rfl)) ?_; (with_reducible refine (clock_Report.calls k _ _ y105 9 true t109 t110 t111 t114 _ ?side1 ?side2 A1.out).mono ?_); (case side1 => repeat (first | exact (Kd.R_reads' HO107.out).2.2 | (with_reducible refine Kd.C_alloc ?_ _) | (with_reducible refine Kd.C_drewN ?_ _) | (with_reducible refine Kd.C_drew ?_))); (case side2 => exact (Kd.R_reads' HO107.out).2.1); rintro e w7 ⟨v112, rfl, ho0, hb⟩; refine ⟨_, rfl, ?_⟩; have n0_ := Aside0.mk (Kd.R_below (by (with_reducible repeat (first | apply Kd.R_alloc | apply Kd.R_drewN | apply Kd.R_drew)); exact HO107.out) hb); have n1_ := Aside0.mk (Kd.R_lower ho0 (below_size (by repeat (first | (with_reducible first | exact HB.out | apply below_alloc | apply pw_below_drewN | apply below_drew1) | exact HB.out)))); have n2_ := Aside0.mk (below_step (by repeat (first | (with_reducible first | exact HB.out | apply below_alloc | apply pw_below_drewN | apply below_drew1) | exact HB.out)) hb); clear HO107; clear HB; have HO107 := n0_; have HO113 := n1_; have HB := n2_; clear n0_ n1_ n2_; (try clear hb); (try clear hb2); (try clear hk); (try clear hi); (try clear ho0)) | ((with_reducible refine gate_dst (N := 1) rfl ?_); refine box_event ?hg (N := 1) ?hd (cs := #[.bool false, .int .i64 0, .int .i64 0, .slice none 0 0]) (t := 66) ?hr ?_; (case hd => rfl); (case hg => rfl); (case hr => first | (go_simp; done) | (go_simp; rfl)); intro gb115 hg w8 hbox hb; have n0_ := Aside0.mk (Kd.R_below (by (with_reducible repeat (first | apply Kd.R_alloc | apply Kd.R_drewN | apply Kd.R_drew)); exact HO107.out) hb); have n1_ := Aside0.mk (Kd.R_below (by (with_reducible repeat (first | apply Kd.R_alloc | apply Kd.R_drewN | apply Kd.R_drew)); exact HO113.out) hb); have n2_ := Aside0.mk (below_step (by repeat (first | (with_reducible first | exact HB.out | apply below_alloc | apply pw_below_drewN | apply below_drew1) | exact HB.out)) hb); have n3_ := Aside0.mk (hbox); have n4_ := Aside0.mk ((by rw [hg]; exact (below_size (by repeat (first | (with_reducible first | exact HB.out | apply below_alloc | apply pw_below_drewN | apply below_drew1) | exact HB.out))) : w.heap.size ≤ gb115)); have n5_ := Aside0.mk ((by rw [hg]; exact (below_size (by repeat (first | (with_reducible first | exact HB.out | apply below_alloc | apply pw_below_drewN | apply below_drew1) | exact HB.out))) : w.heap.size ≤ gb115)); clear HO107; clear HO113; clear HB; have HO107 := n0_; have HO113 := n1_; have HB := n2_; have BK115 := n3_; have GW115 := n4_; have GE115 := n5_; clear n0_ n1_ n2_ n3_ n4_ n5_; clear hb hbox hg; have hcz9_0 : w8.cell? ⟨gb115, 0, none⟩ = some (.bool false) := (blk_cell BK115.out 0).trans rfl; have hcz9_1 : w8.cell? ⟨gb115, 1, none⟩ = some (.int .i64 0) := (blk_cell BK115.out 1).trans rfl; have hcz9_2 : w8.cell? ⟨gb115, 2, none⟩ = some (.int .i64 0) := (blk_cell BK115.out 2).trans rfl; have hcz9_3 : w8.cell? ⟨gb115, 3, none⟩ = some (.slice none 0 0) := (blk_cell BK115.out 3).trans rfl; have hfz9_0 := blk_frozen BK115.out 0; have hfz9_1 := blk_frozen BK115.out 1; have hfz9_2 := blk_frozen BK115.out 2; have hfz9_3 := blk_frozen BK115.out 3; obtain ⟨Ao10, co10, eo10⟩ := Kd.R_slice HO113.out; subst eo10))
   go_ret
   exact ⟨by first | rfl | (simp [errW_none, errW_some] <;> rfl) | (simp [*, errW_none, errW_some] <;> rfl), by repeat (first | (with_reducible first | exact HB.out | apply below_alloc | apply pw_below_drewN | apply below_drew1 | refine below_set ?_ GE115.out) | exact HB.out)⟩
  ·replace c3 := Bool.eq_false_iff.mpr c3
   subst c3
   have H1 : (some false) = some r := by rw [if_neg (show ¬ (false = true) by decide)] at H; exact H
   clear H
   have H := H1
   clear H1
   obtain rfl := Option.some.inj H
   go_enter Try.func24, Try.ntmps24
   go_wp2_with (first | ((with_reducible refine gate_dst (N := 5) rfl ?_); refine Kd.R_lit k70 _ 70 ?hg (N := 5) ?hd (xs := ([(⟨0, 5, 0⟩ : S70)] : List (S70))) (inner := [.int .i64 0, .int .i64 5, .int .i64 0]) (ok := fun _ => True) (okp := fun _ => True) ?hr ?hp (fun _ hk => hk) trivial (Below.refl _ _) (Nat.le_refl _) (by simp) ?_; (case hd => rfl); (case hg => rfl); (case hr => first | (go_simp; done) | (go_simp; rfl)); (case hp => exact (Reps.c3 (show Kd.M k70 _ _ _ (⟨0, 5, 0⟩ : S70) [.int .i64 0, .int .i64 5, .int .i64 0] from (k70_mkM _ _ _ (⟨0, 5, 0⟩ : S70) )) (Reps.none _ _))); intro v106 w11 ho12 hb hg_ hnew_; clear hg_ hnew_; (first | rw [← Ny105.out] at ho12 | (simp only [Int.reduceToNat] at ho12; rw [← Ny105.out] at ho12)); have n0_ := Aside0.mk (Kd.R_lower ho12 (below_size (by repeat (first | (with_reducible first | exact HB.out | apply below_alloc | apply pw_below_drewN | apply below_drew1) | exact HB.out)))); have n1_ := Aside0.mk (below_step (by repeat (first | (with_reducible first | exact HB.out | apply below_alloc | apply pw_below_drewN | apply below_drew1) | exact HB.out)) hb); clear HB; have HO107 := n0_; have HB := n1_; clear n0_ n1_; clear hb ho12; obtain ⟨Ao13, co13, eo13⟩ := Kd.R_slice HO107.out; subst eo13) | ((with_reducible refine gate_callee (f := 26) rfl ?_); refine goesL_ (some 6) rfl rfl Try.func26 (by kernel_rfl) rfl #[.slice Ao13 y105.length co13, .int .i64 9] rfl (by (try simp only [List.map_toArray, List.map_cons, List.map_nil]); first | done | rfl | (simp only [List.length_drop, List.length_take]; rfl)) ?_; (with_reducible refine (clock_Report.calls k _ _ y105 9 false t109 t110 t111 t114 _ ?side1 ?side2 A1.out).mono ?_); (case side1 => repeat (first | exact (Kd.R_reads' HO107.out).2.2 | (with_reducible refine Kd.C_alloc ?_ _) | (with_reducible refine Kd.C_drewN ?_ _) | (with_reducible refine Kd.C_drew ?_))); (case side2 => exact (Kd.R_reads' HO107.out).2.1); rintro e w14 ⟨v112, rfl, ho0, hb⟩; refine ⟨_, rfl, ?_⟩; have n0_ := Aside0.mk (Kd.R_below (by (with_reducible repeat (first | apply Kd.R_alloc | apply Kd.R_drewN | apply Kd.R_drew)); exact HO107.out) hb); have n1_ := Aside0.mk (Kd.R_lower ho0 (below_size (by repeat (first | (with_reducible first | exact HB.out | apply below_alloc | apply pw_below_drewN | apply below_drew1) | exact HB.out)))); have n2_ := Aside0.mk (below_step (by repeat (first | (with_reducible first | exact HB.out | apply below_alloc | apply pw_below_drewN | apply below_drew1) | exact HB.out)) hb); clear HO107; clear HB; have HO107 := n0_; have HO113 := n1_; have HB := n2_; clear n0_ n1_ n2_; (try clear hb); (try clear hb2); (try clear hk); (try clear hi); (try clear ho0)) | ((with_reducible refine gate_dst (N := 1) rfl ?_); refine box_event ?hg (N := 1) ?hd (cs := #[.bool false, .int .i64 0, .int .i64 0, .slice none 0 0]) (t := 66) ?hr ?_; (case hd => rfl); (case hg => rfl); (case hr => first | (go_simp; done) | (go_simp; rfl)); intro gb115 hg w15 hbox hb; have n0_ := Aside0.mk (Kd.R_below (by (with_reducible repeat (first | apply Kd.R_alloc | apply Kd.R_drewN | apply Kd.R_drew)); exact HO107.out) hb); have n1_ := Aside0.mk (Kd.R_below (by (with_reducible repeat (first | apply Kd.R_alloc | apply Kd.R_drewN | apply Kd.R_drew)); exact HO113.out) hb); have n2_ := Aside0.mk (below_step (by repeat (first | (with_reducible first | exact HB.out | apply below_alloc | apply pw_below_drewN | apply below_drew1) | exact HB.out)) hb); have n3_ := Aside0.mk (hbox); have n4_ := Aside0.mk ((by rw [hg]; exact (below_size (by repeat (first | (with_reducible first | exact HB.out | apply below_alloc | apply pw_below_drewN | apply below_drew1) | exact HB.out))) : w.heap.size ≤ gb115)); have n5_ := Aside0.mk ((by rw [hg]; exact (below_size (by repeat (first | (with_reducible first | exact HB.out | apply below_alloc | apply pw_below_drewN | apply below_drew1) | exact HB.out))) : w.heap.size ≤ gb115)); clear HO107; clear HO113; clear HB; have HO107 := n0_; have HO113 := n1_; have HB := n2_; have BK115 := n3_; have GW115 := n4_; have GE115 := n5_; clear n0_ n1_ n2_ n3_ n4_ n5_; clear hb hbox hg; have hcz16_0 : w15.cell? ⟨gb115, 0, none⟩ = some (.bool false) := (blk_cell BK115.out 0).trans rfl; have hcz16_1 : w15.cell? ⟨gb115, 1, none⟩ = some (.int .i64 0) := (blk_cell BK115.out 1).trans rfl; have hcz16_2 : w15.cell? ⟨gb115, 2, none⟩ = some (.int .i64 0) := (blk_cell BK115.out 2).trans rfl; have hcz16_3 : w15.cell? ⟨gb115, 3, none⟩ = some (.slice none 0 0) := (blk_cell BK115.out 3).trans rfl; have hfz16_0 := blk_frozen BK115.out 0; have hfz16_1 := blk_frozen BK115.out 1; have hfz16_2 := blk_frozen BK115.out 2; have hfz16_3 := blk_frozen BK115.out 3; obtain ⟨Ao17, co17, eo17⟩ := Kd.R_slice HO113.out; subst eo17))
   go_ret
   exact ⟨by first | rfl | (simp [errW_none, errW_some] <;> rfl) | (simp [*, errW_none, errW_some] <;> rfl), by repeat (first | (with_reducible first | exact HB.out | apply below_alloc | apply pw_below_drewN | apply below_drew1 | refine below_set ?_ GE115.out) | exact HB.out)⟩
 ·rw [if_neg c2] at H
  have c2b0 : (t114 == 0) = false := beq_eq_false_iff_ne.mpr c2
  have c2b1 : (t114 != 0) = true := bne_iff_ne.mpr c2
  obtain rfl := Option.some.inj H
  go_enter Try.func24, Try.ntmps24
  go_wp2_with (first | ((with_reducible refine gate_dst (N := 5) rfl ?_); refine Kd.R_lit k70 _ 70 ?hg (N := 5) ?hd (xs := ([(⟨0, 5, 0⟩ : S70)] : List (S70))) (inner := [.int .i64 0, .int .i64 5, .int .i64 0]) (ok := fun _ => True) (okp := fun _ => True) ?hr ?hp (fun _ hk => hk) trivial (Below.refl _ _) (Nat.le_refl _) (by simp) ?_; (case hd => rfl); (case hg => rfl); (case hr => first | (go_simp; done) | (go_simp; rfl)); (case hp => exact (Reps.c3 (show Kd.M k70 _ _ _ (⟨0, 5, 0⟩ : S70) [.int .i64 0, .int .i64 5, .int .i64 0] from (k70_mkM _ _ _ (⟨0, 5, 0⟩ : S70) )) (Reps.none _ _))); intro v106 w18 ho19 hb hg_ hnew_; clear hg_ hnew_; (first | rw [← Ny105.out] at ho19 | (simp only [Int.reduceToNat] at ho19; rw [← Ny105.out] at ho19)); have n0_ := Aside0.mk (Kd.R_lower ho19 (below_size (by repeat (first | (with_reducible first | exact HB.out | apply below_alloc | apply pw_below_drewN | apply below_drew1) | exact HB.out)))); have n1_ := Aside0.mk (below_step (by repeat (first | (with_reducible first | exact HB.out | apply below_alloc | apply pw_below_drewN | apply below_drew1) | exact HB.out)) hb); clear HB; have HO107 := n0_; have HB := n1_; clear n0_ n1_; clear hb ho19; obtain ⟨Ao20, co20, eo20⟩ := Kd.R_slice HO107.out; subst eo20) | ((with_reducible refine gate_callee (f := 26) rfl ?_); refine goesL_ (some 6) rfl rfl Try.func26 (by kernel_rfl) rfl #[.slice Ao20 y105.length co20, .int .i64 9] rfl (by (try simp only [List.map_toArray, List.map_cons, List.map_nil]); first | done | rfl | (simp only [List.length_drop, List.length_take]; rfl)) ?_; (with_reducible refine (clock_Report.calls k _ _ y105 9 t108 t109 t110 t111 t114 _ ?side1 ?side2 A1.out).mono ?_); (case side1 => repeat (first | exact (Kd.R_reads' HO107.out).2.2 | (with_reducible refine Kd.C_alloc ?_ _) | (with_reducible refine Kd.C_drewN ?_ _) | (with_reducible refine Kd.C_drew ?_))); (case side2 => exact (Kd.R_reads' HO107.out).2.1); rintro e w21 ⟨v112, rfl, ho0, hb⟩; refine ⟨_, rfl, ?_⟩; have n0_ := Aside0.mk (Kd.R_below (by (with_reducible repeat (first | apply Kd.R_alloc | apply Kd.R_drewN | apply Kd.R_drew)); exact HO107.out) hb); have n1_ := Aside0.mk (Kd.R_lower ho0 (below_size (by repeat (first | (with_reducible first | exact HB.out | apply below_alloc | apply pw_below_drewN | apply below_drew1) | exact HB.out)))); have n2_ := Aside0.mk (below_step (by repeat (first | (with_reducible first | exact HB.out | apply below_alloc | apply pw_below_drewN | apply below_drew1) | exact HB.out)) hb); clear HO107; clear HB; have HO107 := n0_; have HO113 := n1_; have HB := n2_; clear n0_ n1_ n2_; (try clear hb); (try clear hb2); (try clear hk); (try clear hi); (try clear ho0)) | ((with_reducible refine gate_dst (N := 1) rfl ?_); refine box_event ?hg (N := 1) ?hd (cs := #[.bool false, .int .i64 0, .int .i64 0, .slice none 0 0]) (t := 66) ?hr ?_; (case hd => rfl); (case hg => rfl); (case hr => first | (go_simp; done) | (go_simp; rfl)); intro gb115 hg w22 hbox hb; have n0_ := Aside0.mk (Kd.R_below (by (with_reducible repeat (first | apply Kd.R_alloc | apply Kd.R_drewN | apply Kd.R_drew)); exact HO107.out) hb); have n1_ := Aside0.mk (Kd.R_below (by (with_reducible repeat (first | apply Kd.R_alloc | apply Kd.R_drewN | apply Kd.R_drew)); exact HO113.out) hb); have n2_ := Aside0.mk (below_step (by repeat (first | (with_reducible first | exact HB.out | apply below_alloc | apply pw_below_drewN | apply below_drew1) | exact HB.out)) hb); have n3_ := Aside0.mk (hbox); have n4_ := Aside0.mk ((by rw [hg]; exact (below_size (by repeat (first | (with_reducible first | exact HB.out | apply below_alloc | apply pw_below_drewN | apply below_drew1) | exact HB.out))) : w.heap.size ≤ gb115)); have n5_ := Aside0.mk ((by rw [hg]; exact (below_size (by repeat (first | (with_reducible first | exact HB.out | apply below_alloc | apply pw_below_drewN | apply below_drew1) | exact HB.out))) : w.heap.size ≤ gb115)); clear HO107; clear HO113; clear HB; have HO107 := n0_; have HO113 := n1_; have HB := n2_; have BK115 := n3_; have GW115 := n4_; have GE115 := n5_; clear n0_ n1_ n2_ n3_ n4_ n5_; clear hb hbox hg; have hcz23_0 : w22.cell? ⟨gb115, 0, none⟩ = some (.bool false) := (blk_cell BK115.out 0).trans rfl; have hcz23_1 : w22.cell? ⟨gb115, 1, none⟩ = some (.int .i64 0) := (blk_cell BK115.out 1).trans rfl; have hcz23_2 : w22.cell? ⟨gb115, 2, none⟩ = some (.int .i64 0) := (blk_cell BK115.out 2).trans rfl; have hcz23_3 : w22.cell? ⟨gb115, 3, none⟩ = some (.slice none 0 0) := (blk_cell BK115.out 3).trans rfl; have hfz23_0 := blk_frozen BK115.out 0; have hfz23_1 := blk_frozen BK115.out 1; have hfz23_2 := blk_frozen BK115.out 2; have hfz23_3 := blk_frozen BK115.out 3; obtain ⟨Ao24, co24, eo24⟩ := Kd.R_slice HO113.out; subst eo24))
  go_ret
  exact ⟨by first | rfl | (simp [errW_none, errW_some] <;> rfl) | (simp [*, errW_none, errW_some] <;> rfl), by repeat (first | (with_reducible first | exact HB.out | apply below_alloc | apply pw_below_drewN | apply below_drew1 | refine below_set ?_ GE115.out) | exact HB.out)⟩

end Go.Proofs.Ytohaoaiffneamaa.QClockAddsUp
