-- Written by a program of this session (myprint.py) for this claim: contracts of the functions that the law reaches. Not trusted: Lean checks it.
import Derived.Test.YtohaoaiffneamaaDoorQBreaksx0
import Derived.Test.YtohaoaiffneamaaDoorQBreaksx3
namespace Go.Proofs.YtohaoaiffneamaaDoor.QBreaks
open Go.RowKit Go.Proofs.YtohaoaiffneamaaDoorW.PrintWords Go.Proofs.YtohaoaiffneamaaDoorW.PrintLast Go.Proofs.YtohaoaiffneamaaDoorW.PrintMore
attribute [local go_sem] cell_set2 cell_set2d max2_int min2_int max_two min_two max_three min_three max_four min_four   -- for this text's walks alone
set_option linter.unusedVariables false
set_option linter.unusedSimpArgs false

/-- A state of type 69 at block g of W; what its slices lead to came in by w0. -/
def IsS69 (w0 W : World) (g : Nat) (f0 : Int) (f1 : Int) (f2 : Int) (f3 : Int) (f4 : Bool) (f5 : Bool) : Prop := W.heap[g]? = some (.cells #[.int .i64 f0, .int .i64 f1, .int .i64 f2, .int .i64 f3, .bool f4, .bool f5] 69 (0, 0)) ∧ w0.heap.size ≤ g
theorem IsS69.grown {w0 W : World} {g : Nat} {f0 : Int} {f1 : Int} {f2 : Int} {f3 : Int} {f4 : Bool} {f5 : Bool} {W1 : World} {row : Option Nat} (h : IsS69 w0 W g f0 f1 f2 f3 f4 f5) (hw : W.grownBy W1 row) (hne : some g ≠ row) : IsS69 w0 W1 g f0 f1 f2 f3 f4 f5 := by
 obtain ⟨hb, hg⟩ := h
 exact ⟨blk_grown hb hw hne, hg⟩
theorem IsS69.own_neN {w0 W : World} {g : Nat} {f0 : Int} {f1 : Int} {f2 : Int} {f3 : Int} {f4 : Bool} {f5 : Bool} {α : Type} {d : Kd α} {e : Nat} {base : Nat} {ok : Nat → Prop} {v : Value} {xs : List α} (h : IsS69 w0 W g f0 f1 f2 f3 f4 f5) (ho : Kd.N d e W base ok v xs) (ht : e ≠ 69) : some g ≠ v.ownBlock := by
 obtain ⟨hb, hg⟩ := h
 exact Kd.N_ne ho hb ht
theorem IsS69.fresh {w0 W : World} {g : Nat} {f0 : Int} {f1 : Int} {f2 : Int} {f3 : Int} {f4 : Bool} {f5 : Bool} (h : IsS69 w0 W g f0 f1 f2 f3 f4 f5) : ∀ k, W.heap.size ≤ k → k ≠ g := by
 obtain ⟨hb, hg⟩ := h
 exact Kd.freshB hb
theorem IsS69.kept {w0 W : World} {g : Nat} {f0 : Int} {f1 : Int} {f2 : Int} {f3 : Int} {f4 : Bool} {f5 : Bool} {W1 : World} {S : Nat → Prop} (h : IsS69 w0 W g f0 f1 f2 f3 f4 f5) (hk : Kept W W1 S) (hne : ¬ S g) : IsS69 w0 W1 g f0 f1 f2 f3 f4 f5 := by
 obtain ⟨hb, hg⟩ := h
 exact ⟨blk_kept hb hk hne, hg⟩
theorem IsS69.below {w0 W : World} {g : Nat} {f0 : Int} {f1 : Int} {f2 : Int} {f3 : Int} {f4 : Bool} {f5 : Bool} {W1 : World} (h : IsS69 w0 W g f0 f1 f2 f3 f4 f5) (hw : Below W.heap.size W W1) : IsS69 w0 W1 g f0 f1 f2 f3 f4 f5 := h.grown (grown_of_below hw none) (by simp)
theorem IsS69.alloc {w0 W : World} {g : Nat} {f0 : Int} {f1 : Int} {f2 : Int} {f3 : Int} {f4 : Bool} {f5 : Bool} (h : IsS69 w0 W g f0 f1 f2 f3 f4 f5) (o : Obj) : IsS69 w0 (W.alloc o) g f0 f1 f2 f3 f4 f5 := h.below (below_alloc (Below.refl _ _) o)
theorem IsS69.drewN {w0 W : World} {g : Nat} {f0 : Int} {f1 : Int} {f2 : Int} {f3 : Int} {f4 : Bool} {f5 : Bool} (h : IsS69 w0 W g f0 f1 f2 f3 f4 f5) (m : Nat) : IsS69 w0 (W.drewN m) g f0 f1 f2 f3 f4 f5 := h
theorem IsS69.drew {w0 W : World} {g : Nat} {f0 : Int} {f1 : Int} {f2 : Int} {f3 : Int} {f4 : Bool} {f5 : Bool} (h : IsS69 w0 W g f0 f1 f2 f3 f4 f5) : IsS69 w0 W.drew g f0 f1 f2 f3 f4 f5 := h
theorem IsS69.at_ {w0 W : World} {g : Nat} {f0 : Int} {f1 : Int} {f2 : Int} {f3 : Int} {f4 : Bool} {f5 : Bool} {w' : World} {m : Nat} (hq : W.drewN m = w') (h : IsS69 w0 W g f0 f1 f2 f3 f4 f5) : IsS69 w0 w' g f0 f1 f2 f3 f4 f5 := by subst hq; exact IsS69.drewN h m
theorem IsS69.apart {w0 W : World} {g : Nat} {f0 : Int} {f1 : Int} {f2 : Int} {f3 : Int} {f4 : Bool} {f5 : Bool} {α : Type} {d : Kd α} {e : Nat} {base : Nat} {ok : Nat → Prop} {v : Value} {xs : List α} (h : IsS69 w0 W g f0 f1 f2 f3 f4 f5) (ho : d.R e W base ok v xs) (ht : ∀ q, q ∈ e :: d.E → q ≠ 69) : d.R e W base (fun k => ok k ∧ k ≠ g) v xs := by
 obtain ⟨hb, hg⟩ := h
 exact Kd.R_types ho hb ht
theorem IsS69.own_ne {w0 W : World} {g : Nat} {f0 : Int} {f1 : Int} {f2 : Int} {f3 : Int} {f4 : Bool} {f5 : Bool} {α : Type} {d : Kd α} {e : Nat} {base : Nat} {ok : Nat → Prop} {v : Value} {xs : List α} (h : IsS69 w0 W g f0 f1 f2 f3 f4 f5) (ho : d.R e W base ok v xs) (ht : e ≠ 69) : some g ≠ v.ownBlock := by
 obtain ⟨hb, hg⟩ := h
 exact Kd.R_ne ho hb ht
theorem IsS69.apartQ {w0 W : World} {g : Nat} {f0 : Int} {f1 : Int} {f2 : Int} {f3 : Int} {f4 : Bool} {f5 : Bool} {α : Type} {d : Kd α} {e : Nat} {base : Nat} {ok : Nat → Prop} {v : Value} {xs : List α} (h : IsS69 w0 W g f0 f1 f2 f3 f4 f5) (ho : d.Q e W base ok v xs) (ht : ∀ q, q ∈ e :: d.E → q ≠ 69) : d.Q e W base (fun k => ok k ∧ k ≠ g) v xs := by
 obtain ⟨hb, hg⟩ := h
 exact Kd.Q_types ho hb ht
theorem IsS69.own_neQ {w0 W : World} {g : Nat} {f0 : Int} {f1 : Int} {f2 : Int} {f3 : Int} {f4 : Bool} {f5 : Bool} {α : Type} {d : Kd α} {e : Nat} {base : Nat} {ok : Nat → Prop} {v : Value} {xs : List α} (h : IsS69 w0 W g f0 f1 f2 f3 f4 f5) (ho : d.Q e W base ok v xs) (ht : e ≠ 69) : some g ≠ v.ownBlock := by
 obtain ⟨hb, hg⟩ := h
 exact Kd.Q_ne ho hb ht
theorem IsS69.apartS {w0 W : World} {g : Nat} {f0 : Int} {f1 : Int} {f2 : Int} {f3 : Int} {f4 : Bool} {f5 : Bool} {α : Type} {d : Kd α} {e : Nat} {base : Nat} {ok : Nat → Prop} {v : Value} {xs : List α} (h : IsS69 w0 W g f0 f1 f2 f3 f4 f5) (ho : d.S e W base ok v xs) (ht : ∀ q, q ∈ e :: d.E → q ≠ 69) : d.S e W base (fun k => ok k ∧ k ≠ g) v xs := by
 obtain ⟨hb, hg⟩ := h
 exact Kd.S_types ho hb ht
theorem IsS69.own_neS {w0 W : World} {g : Nat} {f0 : Int} {f1 : Int} {f2 : Int} {f3 : Int} {f4 : Bool} {f5 : Bool} {α : Type} {d : Kd α} {e : Nat} {base : Nat} {ok : Nat → Prop} {v : Value} {xs : List α} (h : IsS69 w0 W g f0 f1 f2 f3 f4 f5) (ho : d.S e W base ok v xs) (ht : e ≠ 69) : some g ≠ v.ownBlock := by
 obtain ⟨hb, hg⟩ := h
 exact Kd.S_ne ho hb ht
theorem IsS69.lt {w0 W : World} {g : Nat} {f0 : Int} {f1 : Int} {f2 : Int} {f3 : Int} {f4 : Bool} {f5 : Bool} (h : IsS69 w0 W g f0 f1 f2 f3 f4 f5) : g < W.heap.size := by
 obtain ⟨hb, hg⟩ := h
 exact blk_lt hb
theorem IsS69.ge {w0 W : World} {g : Nat} {f0 : Int} {f1 : Int} {f2 : Int} {f3 : Int} {f4 : Bool} {f5 : Bool} (h : IsS69 w0 W g f0 f1 f2 f3 f4 f5) : w0.heap.size ≤ g := by
 obtain ⟨hb, hg⟩ := h
 exact hg
theorem IsS69.ne_blk {w0 W : World} {g : Nat} {f0 : Int} {f1 : Int} {f2 : Int} {f3 : Int} {f4 : Bool} {f5 : Bool} {a : Nat} {cs : Array Value} {t : TypeId} {fr : Nat × Nat} (h : IsS69 w0 W g f0 f1 f2 f3 f4 f5) (hb2 : W.heap[a]? = some (.cells cs t fr)) (ht : t ≠ 69) : g ≠ a := by
 obtain ⟨hb, hg⟩ := h
 rintro rfl
 rw [hb] at hb2
 injection hb2 with hb2
 injection hb2 with _ ht2
 exact ht ht2.symm
theorem IsS69.far {w0 W : World} {g : Nat} {f0 : Int} {f1 : Int} {f2 : Int} {f3 : Int} {f4 : Bool} {f5 : Bool} {p : Addr} (h : IsS69 w0 W g f0 f1 f2 f3 f4 f5) (hne : g ≠ p.block) (u : Value) : IsS69 w0 (W.setCell p u) g f0 f1 f2 f3 f4 f5 := by
 obtain ⟨hb, hg⟩ := h
 exact ⟨blk_far hb hne u, hg⟩
theorem cellS69_0 {W : World} {g : Nat} {f0 : Int} {f1 : Int} {f2 : Int} {f3 : Int} {f4 : Bool} {f5 : Bool} (h : W.heap[g]? = some (.cells #[.int .i64 f0, .int .i64 f1, .int .i64 f2, .int .i64 f3, .bool f4, .bool f5] 69 (0, 0))) : W.cell? ⟨g, 0, none⟩ = some (.int .i64 f0) := (blk_cell h 0).trans rfl
theorem IsS69.set_0 {w0 W : World} {g : Nat} {f0 : Int} {f1 : Int} {f2 : Int} {f3 : Int} {f4 : Bool} {f5 : Bool} (h : IsS69 w0 W g f0 f1 f2 f3 f4 f5) (x : Int) : IsS69 w0 (W.setCell ⟨g, 0, none⟩ (.int .i64 x)) g x f1 f2 f3 f4 f5 := by
 obtain ⟨hb, hg⟩ := h
 exact ⟨by simpa using blk_set hb 0 (.int .i64 x), hg⟩
theorem cellS69_1 {W : World} {g : Nat} {f0 : Int} {f1 : Int} {f2 : Int} {f3 : Int} {f4 : Bool} {f5 : Bool} (h : W.heap[g]? = some (.cells #[.int .i64 f0, .int .i64 f1, .int .i64 f2, .int .i64 f3, .bool f4, .bool f5] 69 (0, 0))) : W.cell? ⟨g, 1, none⟩ = some (.int .i64 f1) := (blk_cell h 1).trans rfl
theorem IsS69.set_1 {w0 W : World} {g : Nat} {f0 : Int} {f1 : Int} {f2 : Int} {f3 : Int} {f4 : Bool} {f5 : Bool} (h : IsS69 w0 W g f0 f1 f2 f3 f4 f5) (x : Int) : IsS69 w0 (W.setCell ⟨g, 1, none⟩ (.int .i64 x)) g f0 x f2 f3 f4 f5 := by
 obtain ⟨hb, hg⟩ := h
 exact ⟨by simpa using blk_set hb 1 (.int .i64 x), hg⟩
theorem cellS69_2 {W : World} {g : Nat} {f0 : Int} {f1 : Int} {f2 : Int} {f3 : Int} {f4 : Bool} {f5 : Bool} (h : W.heap[g]? = some (.cells #[.int .i64 f0, .int .i64 f1, .int .i64 f2, .int .i64 f3, .bool f4, .bool f5] 69 (0, 0))) : W.cell? ⟨g, 2, none⟩ = some (.int .i64 f2) := (blk_cell h 2).trans rfl
theorem IsS69.set_2 {w0 W : World} {g : Nat} {f0 : Int} {f1 : Int} {f2 : Int} {f3 : Int} {f4 : Bool} {f5 : Bool} (h : IsS69 w0 W g f0 f1 f2 f3 f4 f5) (x : Int) : IsS69 w0 (W.setCell ⟨g, 2, none⟩ (.int .i64 x)) g f0 f1 x f3 f4 f5 := by
 obtain ⟨hb, hg⟩ := h
 exact ⟨by simpa using blk_set hb 2 (.int .i64 x), hg⟩
theorem cellS69_3 {W : World} {g : Nat} {f0 : Int} {f1 : Int} {f2 : Int} {f3 : Int} {f4 : Bool} {f5 : Bool} (h : W.heap[g]? = some (.cells #[.int .i64 f0, .int .i64 f1, .int .i64 f2, .int .i64 f3, .bool f4, .bool f5] 69 (0, 0))) : W.cell? ⟨g, 3, none⟩ = some (.int .i64 f3) := (blk_cell h 3).trans rfl
theorem IsS69.set_3 {w0 W : World} {g : Nat} {f0 : Int} {f1 : Int} {f2 : Int} {f3 : Int} {f4 : Bool} {f5 : Bool} (h : IsS69 w0 W g f0 f1 f2 f3 f4 f5) (x : Int) : IsS69 w0 (W.setCell ⟨g, 3, none⟩ (.int .i64 x)) g f0 f1 f2 x f4 f5 := by
 obtain ⟨hb, hg⟩ := h
 exact ⟨by simpa using blk_set hb 3 (.int .i64 x), hg⟩
theorem cellS69_4 {W : World} {g : Nat} {f0 : Int} {f1 : Int} {f2 : Int} {f3 : Int} {f4 : Bool} {f5 : Bool} (h : W.heap[g]? = some (.cells #[.int .i64 f0, .int .i64 f1, .int .i64 f2, .int .i64 f3, .bool f4, .bool f5] 69 (0, 0))) : W.cell? ⟨g, 4, none⟩ = some (.bool f4) := (blk_cell h 4).trans rfl
theorem IsS69.set_4 {w0 W : World} {g : Nat} {f0 : Int} {f1 : Int} {f2 : Int} {f3 : Int} {f4 : Bool} {f5 : Bool} (h : IsS69 w0 W g f0 f1 f2 f3 f4 f5) (x : Bool) : IsS69 w0 (W.setCell ⟨g, 4, none⟩ (.bool x)) g f0 f1 f2 f3 x f5 := by
 obtain ⟨hb, hg⟩ := h
 exact ⟨by simpa using blk_set hb 4 (.bool x), hg⟩
theorem cellS69_5 {W : World} {g : Nat} {f0 : Int} {f1 : Int} {f2 : Int} {f3 : Int} {f4 : Bool} {f5 : Bool} (h : W.heap[g]? = some (.cells #[.int .i64 f0, .int .i64 f1, .int .i64 f2, .int .i64 f3, .bool f4, .bool f5] 69 (0, 0))) : W.cell? ⟨g, 5, none⟩ = some (.bool f5) := (blk_cell h 5).trans rfl
theorem IsS69.set_5 {w0 W : World} {g : Nat} {f0 : Int} {f1 : Int} {f2 : Int} {f3 : Int} {f4 : Bool} {f5 : Bool} (h : IsS69 w0 W g f0 f1 f2 f3 f4 f5) (x : Bool) : IsS69 w0 (W.setCell ⟨g, 5, none⟩ (.bool x)) g f0 f1 f2 f3 f4 x := by
 obtain ⟨hb, hg⟩ := h
 exact ⟨by simpa using blk_set hb 5 (.bool x), hg⟩
theorem IsS69.new (w0 W : World) (f0 : Int) (f1 : Int) (f2 : Int) (f3 : Int) (f4 : Bool) (f5 : Bool) (hB : Below w0.heap.size w0 W) : IsS69 w0 (W.alloc (.cells #[.int .i64 f0, .int .i64 f1, .int .i64 f2, .int .i64 f3, .bool f4, .bool f5] 69)) W.heap.size f0 f1 f2 f3 f4 f5 := ⟨by simpa using heap_alloc_new W _, hB.size⟩

/-! ### breaks_scan_may: function 31 -/
mutual
def breaks_scan_may.j0 : Nat → Int → Bool → Int → Int → Int → Int → Bool → Bool → Option (Int × Bool × Int × Int × Int × Int × Bool × Bool)
 | 0, _, _, _, _, _, _, _, _ => none
 | k + 1, x6, x15, x1000, x1001, x1002, x1003, x1004, x1005 => if x15 = true then (some (0, false, x1000, x1001, x1002, x1003, x1004, x1005)) else (if x1003 = 3 then (some (0, true, x1000, x1001, x1002, x1003, x1004, x1005)) else (if x1000 = 4 then (breaks_scan_may.j1 k x6 true x1000 x1001 x1002 x1003 x1004 x1005) else (if x6 = 4 then (if x1002 = 0 then (breaks_scan_may.j1 k x6 true x1000 x1001 x1002 x1003 x1004 x1005) else (if x6 = 8 then (breaks_scan_may.j1 k x6 true x1000 x1001 x1002 x1003 x1004 x1005) else (breaks_scan_may.j1 k x6 (x1003 == 7) x1000 x1001 x1002 x1003 x1004 x1005))) else (if x6 = 8 then (breaks_scan_may.j1 k x6 true x1000 x1001 x1002 x1003 x1004 x1005) else (breaks_scan_may.j1 k x6 (x1003 == 7) x1000 x1001 x1002 x1003 x1004 x1005)))))
def breaks_scan_may.j1 : Nat → Int → Bool → Int → Int → Int → Int → Bool → Bool → Option (Int × Bool × Int × Int × Int × Int × Bool × Bool)
 | 0, _, _, _, _, _, _, _, _ => none
 | k + 1, x6, x42, x1000, x1001, x1002, x1003, x1004, x1005 => if x42 = true then (some (0, false, x1000, x1001, x1002, x1003, x1004, x1005)) else (if x1002 > 0 then (some (0, true, x1000, x1001, x1002, x1003, x1004, x1005)) else (if x1000 = 6 then (some (1, true, x1000, x1001, x1002, x1003, x1004, x1005)) else (if x1000 = 5 then (if x6 = 11 then (some (0, false, x1000, x1001, x1002, x1003, x1004, x1005)) else (if x1001 = 2 then (some (0, false, x1000, x1001, x1002, x1003, x1004, x1005)) else (some (0, (x1001 != 1), x1000, x1001, x1002, x1003, x1004, x1005)))) else (if x1000 = 9 then (some (0, true, x1000, x1001, x1002, x1003, x1004, x1005)) else (if x6 = 9 then (some (0, true, x1000, x1001, x1002, x1003, x1004, x1005)) else (some (0, false, x1000, x1001, x1002, x1003, x1004, x1005)))))))
end
def breaks_scan_may.f (k : Nat) (s0_0 : Int) (s0_1 : Int) (s0_2 : Int) (s0_3 : Int) (s0_4 : Bool) (s0_5 : Bool) (a1 : Int) (l2 : List (List (S98))) : Option (Int × Bool × Int × Int × Int × Int × Bool × Bool) := (breaks_class.f k a1 l2).bind fun t112 => (if s0_0 = 1 then (some (2, true, s0_0, s0_1, s0_2, s0_3, s0_4, s0_5)) else (if s0_5 = true then (breaks_scan_may.j0 k t112 true s0_0 s0_1 s0_2 s0_3 s0_4 s0_5) else (if t112 = 1 then (breaks_scan_may.j0 k t112 true s0_0 s0_1 s0_2 s0_3 s0_4 s0_5) else (if t112 = 2 then (breaks_scan_may.j0 k t112 true s0_0 s0_1 s0_2 s0_3 s0_4 s0_5) else (if t112 = 10 then (breaks_scan_may.j0 k t112 true s0_0 s0_1 s0_2 s0_3 s0_4 s0_5) else (breaks_scan_may.j0 k t112 (t112 == 3) s0_0 s0_1 s0_2 s0_3 s0_4 s0_5))))))
theorem breaks_scan_may.mono_l : ∀ k, (∀ y0 y1 y2 y3 y4 y5 y6 y7, LeO (breaks_scan_may.j0 k y0 y1 y2 y3 y4 y5 y6 y7) (breaks_scan_may.j0 (k + 1) y0 y1 y2 y3 y4 y5 y6 y7)) ∧ (∀ y0 y1 y2 y3 y4 y5 y6 y7, LeO (breaks_scan_may.j1 k y0 y1 y2 y3 y4 y5 y6 y7) (breaks_scan_may.j1 (k + 1) y0 y1 y2 y3 y4 y5 y6 y7))
 | 0 => ⟨fun _ _ _ _ _ _ _ _ r h => by simp [breaks_scan_may.j0] at h, fun _ _ _ _ _ _ _ _ r h => by simp [breaks_scan_may.j1] at h⟩
 | k + 1 => by
  obtain ⟨ih0, ih1⟩ := breaks_scan_may.mono_l k
  refine ⟨?_, ?_⟩
  ·intro y0 y1 y2 y3 y4 y5 y6 y7
   unfold breaks_scan_may.j0
   repeat' first
   | (with_reducible exact ih0 _ _ _ _ _ _ _ _)
   | (with_reducible exact ih1 _ _ _ _ _ _ _ _)
   | (with_reducible exact breaks_class.mono _ _ _)
   | (with_reducible exact LeO.refl _)
   | (with_reducible exact LeO.none _)
   | (with_reducible refine LeO.ite ?_ ?_)
   | (with_reducible refine LeO.bind ?_ (fun _ => ?_))
   | exact ih0 _ _ _ _ _ _ _ _
   | exact ih1 _ _ _ _ _ _ _ _
   | exact breaks_class.mono _ _ _
   | exact LeO.none _
   | refine LeO.ite ?_ ?_
   | refine LeO.bind ?_ (fun _ => ?_)
  ·intro y0 y1 y2 y3 y4 y5 y6 y7
   unfold breaks_scan_may.j1
   repeat' first
   | (with_reducible exact ih0 _ _ _ _ _ _ _ _)
   | (with_reducible exact ih1 _ _ _ _ _ _ _ _)
   | (with_reducible exact breaks_class.mono _ _ _)
   | (with_reducible exact LeO.refl _)
   | (with_reducible exact LeO.none _)
   | (with_reducible refine LeO.ite ?_ ?_)
   | (with_reducible refine LeO.bind ?_ (fun _ => ?_))
   | exact ih0 _ _ _ _ _ _ _ _
   | exact ih1 _ _ _ _ _ _ _ _
   | exact breaks_class.mono _ _ _
   | exact LeO.none _
   | refine LeO.ite ?_ ?_
   | refine LeO.bind ?_ (fun _ => ?_)
theorem breaks_scan_may.mono : ∀ a0 a1 a2 a3 a4 a5 a6 a7 k, LeO (breaks_scan_may.f k a0 a1 a2 a3 a4 a5 a6 a7) (breaks_scan_may.f (k + 1) a0 a1 a2 a3 a4 a5 a6 a7) := by
 intro a0 a1 a2 a3 a4 a5 a6 a7 k
 obtain ⟨ih0, ih1⟩ := breaks_scan_may.mono_l k
 unfold breaks_scan_may.f
 repeat' first
   | (with_reducible exact ih0 _ _ _ _ _ _ _ _)
   | (with_reducible exact ih1 _ _ _ _ _ _ _ _)
   | (with_reducible exact breaks_class.mono _ _ _)
   | (with_reducible exact LeO.refl _)
   | (with_reducible exact LeO.none _)
   | (with_reducible refine LeO.ite ?_ ?_)
   | (with_reducible refine LeO.bind ?_ (fun _ => ?_))
   | exact ih0 _ _ _ _ _ _ _ _
   | exact ih1 _ _ _ _ _ _ _ _
   | exact breaks_class.mono _ _ _
   | exact LeO.none _
   | refine LeO.ite ?_ ?_
   | refine LeO.bind ?_ (fun _ => ?_)
set_option maxHeartbeats 8000000 in
set_option maxRecDepth 100000 in
theorem breaks_scan_may.calls (k : Nat) (g : Nat) (s0_0 : Int) (s0_1 : Int) (s0_2 : Int) (s0_3 : Int) (s0_4 : Bool) (s0_5 : Bool) (a1 : Int) (c2 : Nat) (l2 : List (List (S98))) (r1 : Int) (r2 : Bool) (r3 : Int) (r4 : Int) (r5 : Int) (r6 : Int) (r7 : Bool) (r8 : Bool) (w0 w : World) (hI : IsS69 w0 w g s0_0 s0_1 s0_2 s0_3 s0_4 s0_5) (hB : Below w0.heap.size w0 w) (hr2 : ∀ W_, KeepBut w W_ g none → Kd.C (Kd.slice 98 k98) W_ (some ⟨0, 0, none⟩) l2.length l2) (hc2 : l2.length ≤ c2) (h : breaks_scan_may.f k s0_0 s0_1 s0_2 s0_3 s0_4 s0_5 a1 l2 = some (r1, r2, r3, r4, r5, r6, r7, r8)) :
  Calls Tryd.prog 31 #[.pointer (some ⟨g, 0, none⟩), .int .i64 a1] w fun e w' => e = .returned (.tuple #[.int .i64 r1, .bool r2]) ∧ IsS69 w0 w' g r3 r4 r5 r6 r7 r8 ∧ Below w0.heap.size w0 w' ∧ KeepBut w w' g none := by
 have HR2 := Aside0.mk hr2
 have HC2 := Aside0.mk hc2
 clear hr2 hc2
 have HI0 := Aside0.mk hI
 have HK := Aside0.mk (KeepBut.refl w g none)
 have HL := Aside0.mk hB.size
 clear hI
 have HW0 := Aside0.mk hB.size
 have HB := Aside0.mk hB
 clear hB
 have H : ((breaks_class.f k a1 l2).bind fun t112 => (if s0_0 = 1 then (some (2, true, s0_0, s0_1, s0_2, s0_3, s0_4, s0_5)) else (if s0_5 = true then (breaks_scan_may.j0 k t112 true s0_0 s0_1 s0_2 s0_3 s0_4 s0_5) else (if t112 = 1 then (breaks_scan_may.j0 k t112 true s0_0 s0_1 s0_2 s0_3 s0_4 s0_5) else (if t112 = 2 then (breaks_scan_may.j0 k t112 true s0_0 s0_1 s0_2 s0_3 s0_4 s0_5) else (if t112 = 10 then (breaks_scan_may.j0 k t112 true s0_0 s0_1 s0_2 s0_3 s0_4 s0_5) else (breaks_scan_may.j0 k t112 (t112 == 3) s0_0 s0_1 s0_2 s0_3 s0_4 s0_5))))))) = some (r1, r2, r3, r4, r5, r6, r7, r8) := h
 clear h
 replace H := Option.bind_eq_some_iff.mp H
 obtain ⟨t112, A40, H⟩ := H
 replace H : (if s0_0 = 1 then (some (2, true, s0_0, s0_1, s0_2, s0_3, s0_4, s0_5)) else (if s0_5 = true then (breaks_scan_may.j0 k t112 true s0_0 s0_1 s0_2 s0_3 s0_4 s0_5) else (if t112 = 1 then (breaks_scan_may.j0 k t112 true s0_0 s0_1 s0_2 s0_3 s0_4 s0_5) else (if t112 = 2 then (breaks_scan_may.j0 k t112 true s0_0 s0_1 s0_2 s0_3 s0_4 s0_5) else (if t112 = 10 then (breaks_scan_may.j0 k t112 true s0_0 s0_1 s0_2 s0_3 s0_4 s0_5) else (breaks_scan_may.j0 k t112 (t112 == 3) s0_0 s0_1 s0_2 s0_3 s0_4 s0_5)))))) = some (r1, r2, r3, r4, r5, r6, r7, r8) := H
 have A4 := Aside0.mk A40
 clear A40
 by_cases c5 : s0_0 = 1
 ·rw [if_pos c5] at H
  have c5b0 : (s0_0 == 1) = true := beq_iff_eq.mpr c5
  have c5b1 : (s0_0 != 1) = false := bne_eq_false_iff_eq.mpr c5
  clear c5
  simp only [Option.some.injEq, Prod.mk.injEq] at H
  obtain ⟨rfl, rfl, rfl, rfl, rfl, rfl, rfl, rfl⟩ := H
  go_enter Tryd.func31, Tryd.ntmps31
  go_wp2_with (first | (go_at_call 27; (with_reducible refine (breaks_class.calls k a1 c2 l2 t112 _ ?side1 ?side2 A4.out).mono ?_); (case side1 => exact Kd.C_foot_now HR2.out (by repeat (first | (with_reducible first | exact HK.out | apply KeepBut.set_ | apply keep_drewN | apply keep_drew | apply keep_alloc) | exact HK.out))); (case side2 => exact HC2.out); rintro e w6 ⟨rfl, hb⟩; have n0_ := Aside0.mk (IsS69.below (by repeat (first | (with_reducible first | exact HI0.out | apply IsS69.alloc | apply IsS69.drewN | apply IsS69.drew | apply IsS69.set_0 | apply IsS69.set_1 | apply IsS69.set_2 | apply IsS69.set_3 | apply IsS69.set_4 | apply IsS69.set_5) | exact HI0.out)) hb); have n1_ := Aside0.mk (KeepBut.trans (by repeat (first | (with_reducible first | exact HK.out | apply KeepBut.set_ | apply keep_drewN | apply keep_drew | apply keep_alloc) | exact HK.out)) (KeepBut.of_below hb g none) (.inl rfl)); have n2_ := Aside0.mk (below_step (by repeat (first | (with_reducible first | exact HB.out | apply below_alloc | apply pw_below_drewN | apply below_drew1 | refine below_set ?_ (IsS69.ge HI0.out)) | exact HB.out)) hb); clear HI0; clear HK; clear HB; have HI0 := n0_; have HK := n1_; have HB := n2_; clear n0_ n1_ n2_; (try clear hb); (try clear hb2); (try clear hk); (try clear hi); obtain ⟨HGz7, hgz7⟩ := HI0.out; have hcz7_0 := cellS69_0 HGz7; have hcz7_1 := cellS69_1 HGz7; have hcz7_2 := cellS69_2 HGz7; have hcz7_3 := cellS69_3 HGz7; have hcz7_4 := cellS69_4 HGz7; have hcz7_5 := cellS69_5 HGz7; have hfz7_0 := blk_frozen HGz7 0; have hfz7_1 := blk_frozen HGz7 1; have hfz7_2 := blk_frozen HGz7 2; have hfz7_3 := blk_frozen HGz7 3; have hfz7_4 := blk_frozen HGz7 4; have hfz7_5 := blk_frozen HGz7 5; clear HGz7 hgz7))
  repeat (go_quiet (first | (go_at_call 27; (with_reducible refine (breaks_class.calls k a1 c2 l2 t112 _ ?side1 ?side2 A4.out).mono ?_); (case side1 => exact Kd.C_foot_now HR2.out (by repeat (first | (with_reducible first | exact HK.out | apply KeepBut.set_ | apply keep_drewN | apply keep_drew | apply keep_alloc) | exact HK.out))); (case side2 => exact HC2.out); rintro e w6 ⟨rfl, hb⟩; have n0_ := Aside0.mk (IsS69.below (by repeat (first | (with_reducible first | exact HI0.out | apply IsS69.alloc | apply IsS69.drewN | apply IsS69.drew | apply IsS69.set_0 | apply IsS69.set_1 | apply IsS69.set_2 | apply IsS69.set_3 | apply IsS69.set_4 | apply IsS69.set_5) | exact HI0.out)) hb); have n1_ := Aside0.mk (KeepBut.trans (by repeat (first | (with_reducible first | exact HK.out | apply KeepBut.set_ | apply keep_drewN | apply keep_drew | apply keep_alloc) | exact HK.out)) (KeepBut.of_below hb g none) (.inl rfl)); have n2_ := Aside0.mk (below_step (by repeat (first | (with_reducible first | exact HB.out | apply below_alloc | apply pw_below_drewN | apply below_drew1 | refine below_set ?_ (IsS69.ge HI0.out)) | exact HB.out)) hb); clear HI0; clear HK; clear HB; have HI0 := n0_; have HK := n1_; have HB := n2_; clear n0_ n1_ n2_; (try clear hb); (try clear hb2); (try clear hk); (try clear hi); obtain ⟨HGz7, hgz7⟩ := HI0.out; have hcz7_0 := cellS69_0 HGz7; have hcz7_1 := cellS69_1 HGz7; have hcz7_2 := cellS69_2 HGz7; have hcz7_3 := cellS69_3 HGz7; have hcz7_4 := cellS69_4 HGz7; have hcz7_5 := cellS69_5 HGz7; have hfz7_0 := blk_frozen HGz7 0; have hfz7_1 := blk_frozen HGz7 1; have hfz7_2 := blk_frozen HGz7 2; have hfz7_3 := blk_frozen HGz7 3; have hfz7_4 := blk_frozen HGz7 4; have hfz7_5 := blk_frozen HGz7 5; clear HGz7 hgz7)); try go_wp2_with (first | (go_at_call 27; (with_reducible refine (breaks_class.calls k a1 c2 l2 t112 _ ?side1 ?side2 A4.out).mono ?_); (case side1 => exact Kd.C_foot_now HR2.out (by repeat (first | (with_reducible first | exact HK.out | apply KeepBut.set_ | apply keep_drewN | apply keep_drew | apply keep_alloc) | exact HK.out))); (case side2 => exact HC2.out); rintro e w6 ⟨rfl, hb⟩; have n0_ := Aside0.mk (IsS69.below (by repeat (first | (with_reducible first | exact HI0.out | apply IsS69.alloc | apply IsS69.drewN | apply IsS69.drew | apply IsS69.set_0 | apply IsS69.set_1 | apply IsS69.set_2 | apply IsS69.set_3 | apply IsS69.set_4 | apply IsS69.set_5) | exact HI0.out)) hb); have n1_ := Aside0.mk (KeepBut.trans (by repeat (first | (with_reducible first | exact HK.out | apply KeepBut.set_ | apply keep_drewN | apply keep_drew | apply keep_alloc) | exact HK.out)) (KeepBut.of_below hb g none) (.inl rfl)); have n2_ := Aside0.mk (below_step (by repeat (first | (with_reducible first | exact HB.out | apply below_alloc | apply pw_below_drewN | apply below_drew1 | refine below_set ?_ (IsS69.ge HI0.out)) | exact HB.out)) hb); clear HI0; clear HK; clear HB; have HI0 := n0_; have HK := n1_; have HB := n2_; clear n0_ n1_ n2_; (try clear hb); (try clear hb2); (try clear hk); (try clear hi); obtain ⟨HGz7, hgz7⟩ := HI0.out; have hcz7_0 := cellS69_0 HGz7; have hcz7_1 := cellS69_1 HGz7; have hcz7_2 := cellS69_2 HGz7; have hcz7_3 := cellS69_3 HGz7; have hcz7_4 := cellS69_4 HGz7; have hcz7_5 := cellS69_5 HGz7; have hfz7_0 := blk_frozen HGz7 0; have hfz7_1 := blk_frozen HGz7 1; have hfz7_2 := blk_frozen HGz7 2; have hfz7_3 := blk_frozen HGz7 3; have hfz7_4 := blk_frozen HGz7 4; have hfz7_5 := blk_frozen HGz7 5; clear HGz7 hgz7)))
  go_ret2
  exact ⟨by first | rfl | (simp [errW_none, errW_some] <;> rfl) | (simp [*, errW_none, errW_some] <;> rfl), by repeat (first | (with_reducible first | exact HI0.out | apply IsS69.alloc | apply IsS69.drewN | apply IsS69.drew | apply IsS69.set_0 | apply IsS69.set_1 | apply IsS69.set_2 | apply IsS69.set_3 | apply IsS69.set_4 | apply IsS69.set_5) | exact HI0.out), by repeat (first | (with_reducible first | exact HB.out | apply below_alloc | apply pw_below_drewN | apply below_drew1 | refine below_set ?_ (IsS69.ge HI0.out)) | exact HB.out), by repeat (first | (with_reducible first | exact HK.out | apply KeepBut.set_ | apply keep_drewN | apply keep_drew | apply keep_alloc) | exact HK.out)⟩
 ·rw [if_neg c5] at H
  have c5b0 : (s0_0 == 1) = false := beq_eq_false_iff_ne.mpr c5
  have c5b1 : (s0_0 != 1) = true := bne_iff_ne.mpr c5
  have HC8 := Aside0.mk H
  clear H
  go_enter Tryd.func31, Tryd.ntmps31
  go_upto_region 4 with (first | (go_at_call 27; (with_reducible refine (breaks_class.calls k a1 c2 l2 t112 _ ?side1 ?side2 A4.out).mono ?_); (case side1 => exact Kd.C_foot_now HR2.out (by repeat (first | (with_reducible first | exact HK.out | apply KeepBut.set_ | apply keep_drewN | apply keep_drew | apply keep_alloc) | exact HK.out))); (case side2 => exact HC2.out); rintro e w9 ⟨rfl, hb⟩; have n0_ := Aside0.mk (IsS69.below (by repeat (first | (with_reducible first | exact HI0.out | apply IsS69.alloc | apply IsS69.drewN | apply IsS69.drew | apply IsS69.set_0 | apply IsS69.set_1 | apply IsS69.set_2 | apply IsS69.set_3 | apply IsS69.set_4 | apply IsS69.set_5) | exact HI0.out)) hb); have n1_ := Aside0.mk (KeepBut.trans (by repeat (first | (with_reducible first | exact HK.out | apply KeepBut.set_ | apply keep_drewN | apply keep_drew | apply keep_alloc) | exact HK.out)) (KeepBut.of_below hb g none) (.inl rfl)); have n2_ := Aside0.mk (below_step (by repeat (first | (with_reducible first | exact HB.out | apply below_alloc | apply pw_below_drewN | apply below_drew1 | refine below_set ?_ (IsS69.ge HI0.out)) | exact HB.out)) hb); clear HI0; clear HK; clear HB; have HI0 := n0_; have HK := n1_; have HB := n2_; clear n0_ n1_ n2_; (try clear hb); (try clear hb2); (try clear hk); (try clear hi); obtain ⟨HGz10, hgz10⟩ := HI0.out; have hcz10_0 := cellS69_0 HGz10; have hcz10_1 := cellS69_1 HGz10; have hcz10_2 := cellS69_2 HGz10; have hcz10_3 := cellS69_3 HGz10; have hcz10_4 := cellS69_4 HGz10; have hcz10_5 := cellS69_5 HGz10; have hfz10_0 := blk_frozen HGz10 0; have hfz10_1 := blk_frozen HGz10 1; have hfz10_2 := blk_frozen HGz10 2; have hfz10_3 := blk_frozen HGz10 3; have hfz10_4 := blk_frozen HGz10 4; have hfz10_5 := blk_frozen HGz10 5; clear HGz10 hgz10))
  repeat (go_quiet (first | (go_at_call 27; (with_reducible refine (breaks_class.calls k a1 c2 l2 t112 _ ?side1 ?side2 A4.out).mono ?_); (case side1 => exact Kd.C_foot_now HR2.out (by repeat (first | (with_reducible first | exact HK.out | apply KeepBut.set_ | apply keep_drewN | apply keep_drew | apply keep_alloc) | exact HK.out))); (case side2 => exact HC2.out); rintro e w9 ⟨rfl, hb⟩; have n0_ := Aside0.mk (IsS69.below (by repeat (first | (with_reducible first | exact HI0.out | apply IsS69.alloc | apply IsS69.drewN | apply IsS69.drew | apply IsS69.set_0 | apply IsS69.set_1 | apply IsS69.set_2 | apply IsS69.set_3 | apply IsS69.set_4 | apply IsS69.set_5) | exact HI0.out)) hb); have n1_ := Aside0.mk (KeepBut.trans (by repeat (first | (with_reducible first | exact HK.out | apply KeepBut.set_ | apply keep_drewN | apply keep_drew | apply keep_alloc) | exact HK.out)) (KeepBut.of_below hb g none) (.inl rfl)); have n2_ := Aside0.mk (below_step (by repeat (first | (with_reducible first | exact HB.out | apply below_alloc | apply pw_below_drewN | apply below_drew1 | refine below_set ?_ (IsS69.ge HI0.out)) | exact HB.out)) hb); clear HI0; clear HK; clear HB; have HI0 := n0_; have HK := n1_; have HB := n2_; clear n0_ n1_ n2_; (try clear hb); (try clear hb2); (try clear hk); (try clear hi); obtain ⟨HGz10, hgz10⟩ := HI0.out; have hcz10_0 := cellS69_0 HGz10; have hcz10_1 := cellS69_1 HGz10; have hcz10_2 := cellS69_2 HGz10; have hcz10_3 := cellS69_3 HGz10; have hcz10_4 := cellS69_4 HGz10; have hcz10_5 := cellS69_5 HGz10; have hfz10_0 := blk_frozen HGz10 0; have hfz10_1 := blk_frozen HGz10 1; have hfz10_2 := blk_frozen HGz10 2; have hfz10_3 := blk_frozen HGz10 3; have hfz10_4 := blk_frozen HGz10 4; have hfz10_5 := blk_frozen HGz10 5; clear HGz10 hgz10)); go_upto_region 4 with (first | (go_at_call 27; (with_reducible refine (breaks_class.calls k a1 c2 l2 t112 _ ?side1 ?side2 A4.out).mono ?_); (case side1 => exact Kd.C_foot_now HR2.out (by repeat (first | (with_reducible first | exact HK.out | apply KeepBut.set_ | apply keep_drewN | apply keep_drew | apply keep_alloc) | exact HK.out))); (case side2 => exact HC2.out); rintro e w9 ⟨rfl, hb⟩; have n0_ := Aside0.mk (IsS69.below (by repeat (first | (with_reducible first | exact HI0.out | apply IsS69.alloc | apply IsS69.drewN | apply IsS69.drew | apply IsS69.set_0 | apply IsS69.set_1 | apply IsS69.set_2 | apply IsS69.set_3 | apply IsS69.set_4 | apply IsS69.set_5) | exact HI0.out)) hb); have n1_ := Aside0.mk (KeepBut.trans (by repeat (first | (with_reducible first | exact HK.out | apply KeepBut.set_ | apply keep_drewN | apply keep_drew | apply keep_alloc) | exact HK.out)) (KeepBut.of_below hb g none) (.inl rfl)); have n2_ := Aside0.mk (below_step (by repeat (first | (with_reducible first | exact HB.out | apply below_alloc | apply pw_below_drewN | apply below_drew1 | refine below_set ?_ (IsS69.ge HI0.out)) | exact HB.out)) hb); clear HI0; clear HK; clear HB; have HI0 := n0_; have HK := n1_; have HB := n2_; clear n0_ n1_ n2_; (try clear hb); (try clear hb2); (try clear hk); (try clear hi); obtain ⟨HGz10, hgz10⟩ := HI0.out; have hcz10_0 := cellS69_0 HGz10; have hcz10_1 := cellS69_1 HGz10; have hcz10_2 := cellS69_2 HGz10; have hcz10_3 := cellS69_3 HGz10; have hcz10_4 := cellS69_4 HGz10; have hcz10_5 := cellS69_5 HGz10; have hfz10_0 := blk_frozen HGz10 0; have hfz10_1 := blk_frozen HGz10 1; have hfz10_2 := blk_frozen HGz10 2; have hfz10_3 := blk_frozen HGz10 3; have hfz10_4 := blk_frozen HGz10 4; have hfz10_5 := blk_frozen HGz10 5; clear HGz10 hgz10)))
  (try simp only [Act.put, List.setIfInBounds_toArray, List.set_cons_zero, List.set_cons_succ])
  go_cut [15] (fun v15 wc => ∃ (kq : Nat) (x15_7 : Bool), v15 = .bool x15_7 ∧ Aside0 (breaks_scan_may.j0 kq t112 x15_7 s0_0 s0_1 s0_2 s0_3 s0_4 s0_5 = some (r1, r2, r3, r4, r5, r6, r7, r8)) ∧ Aside0 (kq ≤ k) ∧ Aside0 (IsS69 w0 wc g s0_0 s0_1 s0_2 s0_3 s0_4 s0_5) ∧ Aside0 (KeepBut w wc g none) ∧ Aside0 (Below w0.heap.size w0 wc))
  case first =>
   have H := HC8.out
   clear HC8
   by_cases c11 : s0_5 = true
   ·subst c11
    have H1 : (breaks_scan_may.j0 k t112 true s0_0 s0_1 s0_2 s0_3 s0_4 true) = some (r1, r2, r3, r4, r5, r6, r7, r8) := by rw [if_pos rfl] at H; exact H
    clear H
    have H := H1
    clear H1
    have H' := Aside0.mk H
    clear H
    obtain ⟨HGz12, hgz12⟩ := HI0.out
    have hcz12_0 := cellS69_0 HGz12
    have hcz12_1 := cellS69_1 HGz12
    have hcz12_2 := cellS69_2 HGz12
    have hcz12_3 := cellS69_3 HGz12
    have hcz12_4 := cellS69_4 HGz12
    have hcz12_5 := cellS69_5 HGz12
    have hfz12_0 := blk_frozen HGz12 0
    have hfz12_1 := blk_frozen HGz12 1
    have hfz12_2 := blk_frozen HGz12 2
    have hfz12_3 := blk_frozen HGz12 3
    have hfz12_4 := blk_frozen HGz12 4
    have hfz12_5 := blk_frozen HGz12 5
    clear HGz12 hgz12
    go_wp2
    repeat (go_quiet (fail); try go_wp2)
    go_meet
    case rel => exact ⟨_, (true), (by first | rfl | (simp; done) | (simp [*]; done)), H', ⟨by first | omega | exact Nat.le_refl _⟩, ⟨by repeat (first | (with_reducible first | exact HI0.out | apply IsS69.alloc | apply IsS69.drewN | apply IsS69.drew | apply IsS69.set_0 | apply IsS69.set_1 | apply IsS69.set_2 | apply IsS69.set_3 | apply IsS69.set_4 | apply IsS69.set_5) | exact HI0.out)⟩, ⟨by repeat (first | (with_reducible first | exact HK.out | apply KeepBut.set_ | apply keep_drewN | apply keep_drew | apply keep_alloc) | exact HK.out)⟩, ⟨by repeat (first | (with_reducible first | exact HB.out | apply below_alloc | apply pw_below_drewN | apply below_drew1 | refine below_set ?_ (IsS69.ge HI0.out)) | exact HB.out)⟩⟩
   ·replace c11 := Bool.eq_false_iff.mpr c11
    subst c11
    have H1 : (if t112 = 1 then (breaks_scan_may.j0 k t112 true s0_0 s0_1 s0_2 s0_3 s0_4 false) else (if t112 = 2 then (breaks_scan_may.j0 k t112 true s0_0 s0_1 s0_2 s0_3 s0_4 false) else (if t112 = 10 then (breaks_scan_may.j0 k t112 true s0_0 s0_1 s0_2 s0_3 s0_4 false) else (breaks_scan_may.j0 k t112 (t112 == 3) s0_0 s0_1 s0_2 s0_3 s0_4 false)))) = some (r1, r2, r3, r4, r5, r6, r7, r8) := by rw [if_neg (show ¬ (false = true) by decide)] at H; exact H
    clear H
    have H := H1
    clear H1
    by_cases c13 : t112 = 1
    ·rw [if_pos c13] at H
     have c13b0 : (t112 == 1) = true := beq_iff_eq.mpr c13
     have c13b1 : (t112 != 1) = false := bne_eq_false_iff_eq.mpr c13
     clear c13
     (first | rw [c13b0] | (simp only [i64_w, i32_w]; rw [c13b0]) | skip)
     have H' := Aside0.mk H
     clear H
     obtain ⟨HGz14, hgz14⟩ := HI0.out
     have hcz14_0 := cellS69_0 HGz14
     have hcz14_1 := cellS69_1 HGz14
     have hcz14_2 := cellS69_2 HGz14
     have hcz14_3 := cellS69_3 HGz14
     have hcz14_4 := cellS69_4 HGz14
     have hcz14_5 := cellS69_5 HGz14
     have hfz14_0 := blk_frozen HGz14 0
     have hfz14_1 := blk_frozen HGz14 1
     have hfz14_2 := blk_frozen HGz14 2
     have hfz14_3 := blk_frozen HGz14 3
     have hfz14_4 := blk_frozen HGz14 4
     have hfz14_5 := blk_frozen HGz14 5
     clear HGz14 hgz14
     go_wp2
     repeat (go_quiet (fail); try go_wp2)
     go_meet
     case rel => exact ⟨_, (true), (by first | rfl | (simp; done) | (simp [*]; done)), H', ⟨by first | omega | exact Nat.le_refl _⟩, ⟨by repeat (first | (with_reducible first | exact HI0.out | apply IsS69.alloc | apply IsS69.drewN | apply IsS69.drew | apply IsS69.set_0 | apply IsS69.set_1 | apply IsS69.set_2 | apply IsS69.set_3 | apply IsS69.set_4 | apply IsS69.set_5) | exact HI0.out)⟩, ⟨by repeat (first | (with_reducible first | exact HK.out | apply KeepBut.set_ | apply keep_drewN | apply keep_drew | apply keep_alloc) | exact HK.out)⟩, ⟨by repeat (first | (with_reducible first | exact HB.out | apply below_alloc | apply pw_below_drewN | apply below_drew1 | refine below_set ?_ (IsS69.ge HI0.out)) | exact HB.out)⟩⟩
    ·rw [if_neg c13] at H
     have c13b0 : (t112 == 1) = false := beq_eq_false_iff_ne.mpr c13
     have c13b1 : (t112 != 1) = true := bne_iff_ne.mpr c13
     (first | rw [c13b0] | (simp only [i64_w, i32_w]; rw [c13b0]) | skip)
     by_cases c15 : t112 = 2
     ·rw [if_pos c15] at H
      have c15b0 : (t112 == 2) = true := beq_iff_eq.mpr c15
      have c15b1 : (t112 != 2) = false := bne_eq_false_iff_eq.mpr c15
      clear c15
      have H' := Aside0.mk H
      clear H
      obtain ⟨HGz16, hgz16⟩ := HI0.out
      have hcz16_0 := cellS69_0 HGz16
      have hcz16_1 := cellS69_1 HGz16
      have hcz16_2 := cellS69_2 HGz16
      have hcz16_3 := cellS69_3 HGz16
      have hcz16_4 := cellS69_4 HGz16
      have hcz16_5 := cellS69_5 HGz16
      have hfz16_0 := blk_frozen HGz16 0
      have hfz16_1 := blk_frozen HGz16 1
      have hfz16_2 := blk_frozen HGz16 2
      have hfz16_3 := blk_frozen HGz16 3
      have hfz16_4 := blk_frozen HGz16 4
      have hfz16_5 := blk_frozen HGz16 5
      clear HGz16 hgz16
      go_wp2
      repeat (go_quiet (fail); try go_wp2)
      go_meet
      case rel => exact ⟨_, (true), (by first | rfl | (simp; done) | (simp [*]; done)), H', ⟨by first | omega | exact Nat.le_refl _⟩, ⟨by repeat (first | (with_reducible first | exact HI0.out | apply IsS69.alloc | apply IsS69.drewN | apply IsS69.drew | apply IsS69.set_0 | apply IsS69.set_1 | apply IsS69.set_2 | apply IsS69.set_3 | apply IsS69.set_4 | apply IsS69.set_5) | exact HI0.out)⟩, ⟨by repeat (first | (with_reducible first | exact HK.out | apply KeepBut.set_ | apply keep_drewN | apply keep_drew | apply keep_alloc) | exact HK.out)⟩, ⟨by repeat (first | (with_reducible first | exact HB.out | apply below_alloc | apply pw_below_drewN | apply below_drew1 | refine below_set ?_ (IsS69.ge HI0.out)) | exact HB.out)⟩⟩
     ·rw [if_neg c15] at H
      have c15b0 : (t112 == 2) = false := beq_eq_false_iff_ne.mpr c15
      have c15b1 : (t112 != 2) = true := bne_iff_ne.mpr c15
      by_cases c17 : t112 = 10
      ·rw [if_pos c17] at H
       have c17b0 : (t112 == 10) = true := beq_iff_eq.mpr c17
       have c17b1 : (t112 != 10) = false := bne_eq_false_iff_eq.mpr c17
       clear c17
       have H' := Aside0.mk H
       clear H
       obtain ⟨HGz18, hgz18⟩ := HI0.out
       have hcz18_0 := cellS69_0 HGz18
       have hcz18_1 := cellS69_1 HGz18
       have hcz18_2 := cellS69_2 HGz18
       have hcz18_3 := cellS69_3 HGz18
       have hcz18_4 := cellS69_4 HGz18
       have hcz18_5 := cellS69_5 HGz18
       have hfz18_0 := blk_frozen HGz18 0
       have hfz18_1 := blk_frozen HGz18 1
       have hfz18_2 := blk_frozen HGz18 2
       have hfz18_3 := blk_frozen HGz18 3
       have hfz18_4 := blk_frozen HGz18 4
       have hfz18_5 := blk_frozen HGz18 5
       clear HGz18 hgz18
       go_wp2
       repeat (go_quiet (fail); try go_wp2)
       go_meet
       case rel => exact ⟨_, (true), (by first | rfl | (simp; done) | (simp [*]; done)), H', ⟨by first | omega | exact Nat.le_refl _⟩, ⟨by repeat (first | (with_reducible first | exact HI0.out | apply IsS69.alloc | apply IsS69.drewN | apply IsS69.drew | apply IsS69.set_0 | apply IsS69.set_1 | apply IsS69.set_2 | apply IsS69.set_3 | apply IsS69.set_4 | apply IsS69.set_5) | exact HI0.out)⟩, ⟨by repeat (first | (with_reducible first | exact HK.out | apply KeepBut.set_ | apply keep_drewN | apply keep_drew | apply keep_alloc) | exact HK.out)⟩, ⟨by repeat (first | (with_reducible first | exact HB.out | apply below_alloc | apply pw_below_drewN | apply below_drew1 | refine below_set ?_ (IsS69.ge HI0.out)) | exact HB.out)⟩⟩
      ·rw [if_neg c17] at H
       have c17b0 : (t112 == 10) = false := beq_eq_false_iff_ne.mpr c17
       have c17b1 : (t112 != 10) = true := bne_iff_ne.mpr c17
       have H' := Aside0.mk H
       clear H
       obtain ⟨HGz19, hgz19⟩ := HI0.out
       have hcz19_0 := cellS69_0 HGz19
       have hcz19_1 := cellS69_1 HGz19
       have hcz19_2 := cellS69_2 HGz19
       have hcz19_3 := cellS69_3 HGz19
       have hcz19_4 := cellS69_4 HGz19
       have hcz19_5 := cellS69_5 HGz19
       have hfz19_0 := blk_frozen HGz19 0
       have hfz19_1 := blk_frozen HGz19 1
       have hfz19_2 := blk_frozen HGz19 2
       have hfz19_3 := blk_frozen HGz19 3
       have hfz19_4 := blk_frozen HGz19 4
       have hfz19_5 := blk_frozen HGz19 5
       clear HGz19 hgz19
       go_wp2
       repeat (go_quiet (fail); try go_wp2)
       go_meet
       case rel => exact ⟨_, ((t112 == 3)), (by first | rfl | (simp; done) | (simp [*]; done)), H', ⟨by first | omega | exact Nat.le_refl _⟩, ⟨by repeat (first | (with_reducible first | exact HI0.out | apply IsS69.alloc | apply IsS69.drewN | apply IsS69.drew | apply IsS69.set_0 | apply IsS69.set_1 | apply IsS69.set_2 | apply IsS69.set_3 | apply IsS69.set_4 | apply IsS69.set_5) | exact HI0.out)⟩, ⟨by repeat (first | (with_reducible first | exact HK.out | apply KeepBut.set_ | apply keep_drewN | apply keep_drew | apply keep_alloc) | exact HK.out)⟩, ⟨by repeat (first | (with_reducible first | exact HB.out | apply below_alloc | apply pw_below_drewN | apply below_drew1 | refine below_set ?_ (IsS69.ge HI0.out)) | exact HB.out)⟩⟩
  case rest =>
   clear HC8
   try clear c1
   try clear c2
   try clear p2
   try clear c3
   try clear c5
   try clear c5b0
   try clear c5b1
   try clear c11
   try clear c13
   try clear c13b0
   try clear c13b1
   try clear c15
   try clear c15b0
   try clear c15b1
   try clear c17
   try clear c17b0
   try clear c17b1
   try clear hcz10_0
   try clear hcz10_1
   try clear hcz10_2
   try clear hcz10_3
   try clear hcz10_4
   try clear hcz10_5
   try clear hcz12_0
   try clear hcz12_1
   try clear hcz12_2
   try clear hcz12_3
   try clear hcz12_4
   try clear hcz12_5
   try clear hcz14_0
   try clear hcz14_1
   try clear hcz14_2
   try clear hcz14_3
   try clear hcz14_4
   try clear hcz14_5
   try clear hcz16_0
   try clear hcz16_1
   try clear hcz16_2
   try clear hcz16_3
   try clear hcz16_4
   try clear hcz16_5
   try clear hcz18_0
   try clear hcz18_1
   try clear hcz18_2
   try clear hcz18_3
   try clear hcz18_4
   try clear hcz18_5
   try clear hcz19_0
   try clear hcz19_1
   try clear hcz19_2
   try clear hcz19_3
   try clear hcz19_4
   try clear hcz19_5
   try clear hcz7_0
   try clear hcz7_1
   try clear hcz7_2
   try clear hcz7_3
   try clear hcz7_4
   try clear hcz7_5
   try clear hfz10_0
   try clear hfz10_1
   try clear hfz10_2
   try clear hfz10_3
   try clear hfz10_4
   try clear hfz10_5
   try clear hfz12_0
   try clear hfz12_1
   try clear hfz12_2
   try clear hfz12_3
   try clear hfz12_4
   try clear hfz12_5
   try clear hfz14_0
   try clear hfz14_1
   try clear hfz14_2
   try clear hfz14_3
   try clear hfz14_4
   try clear hfz14_5
   try clear hfz16_0
   try clear hfz16_1
   try clear hfz16_2
   try clear hfz16_3
   try clear hfz16_4
   try clear hfz16_5
   try clear hfz18_0
   try clear hfz18_1
   try clear hfz18_2
   try clear hfz18_3
   try clear hfz18_4
   try clear hfz18_5
   try clear hfz19_0
   try clear hfz19_1
   try clear hfz19_2
   try clear hfz19_3
   try clear hfz19_4
   try clear hfz19_5
   try clear hfz7_0
   try clear hfz7_1
   try clear hfz7_2
   try clear hfz7_3
   try clear hfz7_4
   try clear hfz7_5
   obtain ⟨kq, x15_7, rfl, HA, HJ7, HI0, HK, HB⟩ := hcut
   cases kq with
   | zero => exact absurd HA.out (by simp [breaks_scan_may.j0])
   | succ kj7 =>
    have H := HA.out
    clear HA
    simp only [breaks_scan_may.j0] at H
    by_cases c20 : x15_7 = true
    ·subst c20
     have H1 : (some (0, false, s0_0, s0_1, s0_2, s0_3, s0_4, s0_5)) = some (r1, r2, r3, r4, r5, r6, r7, r8) := by rw [if_pos rfl] at H; exact H
     clear H
     have H := H1
     clear H1
     simp only [Option.some.injEq, Prod.mk.injEq] at H
     obtain ⟨rfl, rfl, rfl, rfl, rfl, rfl, rfl, rfl⟩ := H
     go_wp2
     repeat (go_quiet (fail); try go_wp2)
     go_ret2
     exact ⟨by first | rfl | (simp [errW_none, errW_some] <;> rfl) | (simp [*, errW_none, errW_some] <;> rfl), by repeat (first | (with_reducible first | exact HI0.out | apply IsS69.alloc | apply IsS69.drewN | apply IsS69.drew | apply IsS69.set_0 | apply IsS69.set_1 | apply IsS69.set_2 | apply IsS69.set_3 | apply IsS69.set_4 | apply IsS69.set_5) | exact HI0.out), by repeat (first | (with_reducible first | exact HB.out | apply below_alloc | apply pw_below_drewN | apply below_drew1 | refine below_set ?_ (IsS69.ge HI0.out)) | exact HB.out), by repeat (first | (with_reducible first | exact HK.out | apply KeepBut.set_ | apply keep_drewN | apply keep_drew | apply keep_alloc) | exact HK.out)⟩
    ·replace c20 := Bool.eq_false_iff.mpr c20
     subst c20
     have H1 : (if s0_3 = 3 then (some (0, true, s0_0, s0_1, s0_2, s0_3, s0_4, s0_5)) else (if s0_0 = 4 then (breaks_scan_may.j1 kj7 t112 true s0_0 s0_1 s0_2 s0_3 s0_4 s0_5) else (if t112 = 4 then (if s0_2 = 0 then (breaks_scan_may.j1 kj7 t112 true s0_0 s0_1 s0_2 s0_3 s0_4 s0_5) else (if t112 = 8 then (breaks_scan_may.j1 kj7 t112 true s0_0 s0_1 s0_2 s0_3 s0_4 s0_5) else (breaks_scan_may.j1 kj7 t112 (s0_3 == 7) s0_0 s0_1 s0_2 s0_3 s0_4 s0_5))) else (if t112 = 8 then (breaks_scan_may.j1 kj7 t112 true s0_0 s0_1 s0_2 s0_3 s0_4 s0_5) else (breaks_scan_may.j1 kj7 t112 (s0_3 == 7) s0_0 s0_1 s0_2 s0_3 s0_4 s0_5))))) = some (r1, r2, r3, r4, r5, r6, r7, r8) := by rw [if_neg (show ¬ (false = true) by decide)] at H; exact H
     clear H
     have H := H1
     clear H1
     by_cases c21 : s0_3 = 3
     ·rw [if_pos c21] at H
      have c21b0 : (s0_3 == 3) = true := beq_iff_eq.mpr c21
      have c21b1 : (s0_3 != 3) = false := bne_eq_false_iff_eq.mpr c21
      clear c21
      simp only [Option.some.injEq, Prod.mk.injEq] at H
      obtain ⟨rfl, rfl, rfl, rfl, rfl, rfl, rfl, rfl⟩ := H
      obtain ⟨HGz22, hgz22⟩ := HI0.out
      have hcz22_0 := cellS69_0 HGz22
      have hcz22_1 := cellS69_1 HGz22
      have hcz22_2 := cellS69_2 HGz22
      have hcz22_3 := cellS69_3 HGz22
      have hcz22_4 := cellS69_4 HGz22
      have hcz22_5 := cellS69_5 HGz22
      have hfz22_0 := blk_frozen HGz22 0
      have hfz22_1 := blk_frozen HGz22 1
      have hfz22_2 := blk_frozen HGz22 2
      have hfz22_3 := blk_frozen HGz22 3
      have hfz22_4 := blk_frozen HGz22 4
      have hfz22_5 := blk_frozen HGz22 5
      clear HGz22 hgz22
      go_wp2
      repeat (go_quiet (fail); try go_wp2)
      go_ret2
      exact ⟨by first | rfl | (simp [errW_none, errW_some] <;> rfl) | (simp [*, errW_none, errW_some] <;> rfl), by repeat (first | (with_reducible first | exact HI0.out | apply IsS69.alloc | apply IsS69.drewN | apply IsS69.drew | apply IsS69.set_0 | apply IsS69.set_1 | apply IsS69.set_2 | apply IsS69.set_3 | apply IsS69.set_4 | apply IsS69.set_5) | exact HI0.out), by repeat (first | (with_reducible first | exact HB.out | apply below_alloc | apply pw_below_drewN | apply below_drew1 | refine below_set ?_ (IsS69.ge HI0.out)) | exact HB.out), by repeat (first | (with_reducible first | exact HK.out | apply KeepBut.set_ | apply keep_drewN | apply keep_drew | apply keep_alloc) | exact HK.out)⟩
     ·rw [if_neg c21] at H
      have c21b0 : (s0_3 == 3) = false := beq_eq_false_iff_ne.mpr c21
      have c21b1 : (s0_3 != 3) = true := bne_iff_ne.mpr c21
      have HC23 := Aside0.mk H
      clear H
      obtain ⟨HGz24, hgz24⟩ := HI0.out
      have hcz24_0 := cellS69_0 HGz24
      have hcz24_1 := cellS69_1 HGz24
      have hcz24_2 := cellS69_2 HGz24
      have hcz24_3 := cellS69_3 HGz24
      have hcz24_4 := cellS69_4 HGz24
      have hcz24_5 := cellS69_5 HGz24
      have hfz24_0 := blk_frozen HGz24 0
      have hfz24_1 := blk_frozen HGz24 1
      have hfz24_2 := blk_frozen HGz24 2
      have hfz24_3 := blk_frozen HGz24 3
      have hfz24_4 := blk_frozen HGz24 4
      have hfz24_5 := blk_frozen HGz24 5
      clear HGz24 hgz24
      go_upto_region 8 with (fail)
      repeat (go_quiet (fail); go_upto_region 8 with (fail))
      go_cut [42] (fun v42 wc => ∃ (kq : Nat) (x42_22 : Bool), v42 = .bool x42_22 ∧ Aside0 (breaks_scan_may.j1 kq t112 x42_22 s0_0 s0_1 s0_2 s0_3 s0_4 s0_5 = some (r1, r2, r3, r4, r5, r6, r7, r8)) ∧ Aside0 (kq ≤ kj7) ∧ Aside0 (IsS69 w0 wc g s0_0 s0_1 s0_2 s0_3 s0_4 s0_5) ∧ Aside0 (KeepBut w wc g none) ∧ Aside0 (Below w0.heap.size w0 wc))
      case first =>
       have H := HC23.out
       clear HC23
       by_cases c25 : s0_0 = 4
       ·rw [if_pos c25] at H
        have c25b0 : (s0_0 == 4) = true := beq_iff_eq.mpr c25
        have c25b1 : (s0_0 != 4) = false := bne_eq_false_iff_eq.mpr c25
        clear c25
        (first | rw [c25b0] | (simp only [i64_w, i32_w]; rw [c25b0]) | skip)
        have H' := Aside0.mk H
        clear H
        obtain ⟨HGz26, hgz26⟩ := HI0.out
        have hcz26_0 := cellS69_0 HGz26
        have hcz26_1 := cellS69_1 HGz26
        have hcz26_2 := cellS69_2 HGz26
        have hcz26_3 := cellS69_3 HGz26
        have hcz26_4 := cellS69_4 HGz26
        have hcz26_5 := cellS69_5 HGz26
        have hfz26_0 := blk_frozen HGz26 0
        have hfz26_1 := blk_frozen HGz26 1
        have hfz26_2 := blk_frozen HGz26 2
        have hfz26_3 := blk_frozen HGz26 3
        have hfz26_4 := blk_frozen HGz26 4
        have hfz26_5 := blk_frozen HGz26 5
        clear HGz26 hgz26
        go_wp2
        repeat (go_quiet (fail); try go_wp2)
        go_meet
        case rel => exact ⟨_, (true), (by first | rfl | (simp; done) | (simp [*]; done)), H', ⟨by have := HJ7.out; first | omega | exact Nat.le_refl _⟩, ⟨by repeat (first | (with_reducible first | exact HI0.out | apply IsS69.alloc | apply IsS69.drewN | apply IsS69.drew | apply IsS69.set_0 | apply IsS69.set_1 | apply IsS69.set_2 | apply IsS69.set_3 | apply IsS69.set_4 | apply IsS69.set_5) | exact HI0.out)⟩, ⟨by repeat (first | (with_reducible first | exact HK.out | apply KeepBut.set_ | apply keep_drewN | apply keep_drew | apply keep_alloc) | exact HK.out)⟩, ⟨by repeat (first | (with_reducible first | exact HB.out | apply below_alloc | apply pw_below_drewN | apply below_drew1 | refine below_set ?_ (IsS69.ge HI0.out)) | exact HB.out)⟩⟩
       ·rw [if_neg c25] at H
        have c25b0 : (s0_0 == 4) = false := beq_eq_false_iff_ne.mpr c25
        have c25b1 : (s0_0 != 4) = true := bne_iff_ne.mpr c25
        (first | rw [c25b0] | (simp only [i64_w, i32_w]; rw [c25b0]) | skip)
        by_cases c27 : t112 = 4
        ·rw [if_pos c27] at H
         have c27b0 : (t112 == 4) = true := beq_iff_eq.mpr c27
         have c27b1 : (t112 != 4) = false := bne_eq_false_iff_eq.mpr c27
         clear c27
         by_cases c28 : s0_2 = 0
         ·rw [if_pos c28] at H
          have c28b0 : (s0_2 == 0) = true := beq_iff_eq.mpr c28
          have c28b1 : (s0_2 != 0) = false := bne_eq_false_iff_eq.mpr c28
          clear c28
          have H' := Aside0.mk H
          clear H
          obtain ⟨HGz29, hgz29⟩ := HI0.out
          have hcz29_0 := cellS69_0 HGz29
          have hcz29_1 := cellS69_1 HGz29
          have hcz29_2 := cellS69_2 HGz29
          have hcz29_3 := cellS69_3 HGz29
          have hcz29_4 := cellS69_4 HGz29
          have hcz29_5 := cellS69_5 HGz29
          have hfz29_0 := blk_frozen HGz29 0
          have hfz29_1 := blk_frozen HGz29 1
          have hfz29_2 := blk_frozen HGz29 2
          have hfz29_3 := blk_frozen HGz29 3
          have hfz29_4 := blk_frozen HGz29 4
          have hfz29_5 := blk_frozen HGz29 5
          clear HGz29 hgz29
          go_wp2
          repeat (go_quiet (fail); try go_wp2)
          go_meet
          case rel => exact ⟨_, (true), (by first | rfl | (simp; done) | (simp [*]; done)), H', ⟨by have := HJ7.out; first | omega | exact Nat.le_refl _⟩, ⟨by repeat (first | (with_reducible first | exact HI0.out | apply IsS69.alloc | apply IsS69.drewN | apply IsS69.drew | apply IsS69.set_0 | apply IsS69.set_1 | apply IsS69.set_2 | apply IsS69.set_3 | apply IsS69.set_4 | apply IsS69.set_5) | exact HI0.out)⟩, ⟨by repeat (first | (with_reducible first | exact HK.out | apply KeepBut.set_ | apply keep_drewN | apply keep_drew | apply keep_alloc) | exact HK.out)⟩, ⟨by repeat (first | (with_reducible first | exact HB.out | apply below_alloc | apply pw_below_drewN | apply below_drew1 | refine below_set ?_ (IsS69.ge HI0.out)) | exact HB.out)⟩⟩
         ·rw [if_neg c28] at H
          have c28b0 : (s0_2 == 0) = false := beq_eq_false_iff_ne.mpr c28
          have c28b1 : (s0_2 != 0) = true := bne_iff_ne.mpr c28
          by_cases c30 : t112 = 8
          ·rw [if_pos c30] at H
           have c30b0 : (t112 == 8) = true := beq_iff_eq.mpr c30
           have c30b1 : (t112 != 8) = false := bne_eq_false_iff_eq.mpr c30
           clear c30
           have H' := Aside0.mk H
           clear H
           obtain ⟨HGz31, hgz31⟩ := HI0.out
           have hcz31_0 := cellS69_0 HGz31
           have hcz31_1 := cellS69_1 HGz31
           have hcz31_2 := cellS69_2 HGz31
           have hcz31_3 := cellS69_3 HGz31
           have hcz31_4 := cellS69_4 HGz31
           have hcz31_5 := cellS69_5 HGz31
           have hfz31_0 := blk_frozen HGz31 0
           have hfz31_1 := blk_frozen HGz31 1
           have hfz31_2 := blk_frozen HGz31 2
           have hfz31_3 := blk_frozen HGz31 3
           have hfz31_4 := blk_frozen HGz31 4
           have hfz31_5 := blk_frozen HGz31 5
           clear HGz31 hgz31
           go_wp2
           repeat (go_quiet (fail); try go_wp2)
           go_meet
           case rel => exact ⟨_, (true), (by first | rfl | (simp; done) | (simp [*]; done)), H', ⟨by have := HJ7.out; first | omega | exact Nat.le_refl _⟩, ⟨by repeat (first | (with_reducible first | exact HI0.out | apply IsS69.alloc | apply IsS69.drewN | apply IsS69.drew | apply IsS69.set_0 | apply IsS69.set_1 | apply IsS69.set_2 | apply IsS69.set_3 | apply IsS69.set_4 | apply IsS69.set_5) | exact HI0.out)⟩, ⟨by repeat (first | (with_reducible first | exact HK.out | apply KeepBut.set_ | apply keep_drewN | apply keep_drew | apply keep_alloc) | exact HK.out)⟩, ⟨by repeat (first | (with_reducible first | exact HB.out | apply below_alloc | apply pw_below_drewN | apply below_drew1 | refine below_set ?_ (IsS69.ge HI0.out)) | exact HB.out)⟩⟩
          ·rw [if_neg c30] at H
           have c30b0 : (t112 == 8) = false := beq_eq_false_iff_ne.mpr c30
           have c30b1 : (t112 != 8) = true := bne_iff_ne.mpr c30
           have H' := Aside0.mk H
           clear H
           obtain ⟨HGz32, hgz32⟩ := HI0.out
           have hcz32_0 := cellS69_0 HGz32
           have hcz32_1 := cellS69_1 HGz32
           have hcz32_2 := cellS69_2 HGz32
           have hcz32_3 := cellS69_3 HGz32
           have hcz32_4 := cellS69_4 HGz32
           have hcz32_5 := cellS69_5 HGz32
           have hfz32_0 := blk_frozen HGz32 0
           have hfz32_1 := blk_frozen HGz32 1
           have hfz32_2 := blk_frozen HGz32 2
           have hfz32_3 := blk_frozen HGz32 3
           have hfz32_4 := blk_frozen HGz32 4
           have hfz32_5 := blk_frozen HGz32 5
           clear HGz32 hgz32
           go_wp2
           repeat (go_quiet (fail); try go_wp2)
           go_meet
           case rel => exact ⟨_, ((s0_3 == 7)), (by first | rfl | (simp; done) | (simp [*]; done)), H', ⟨by have := HJ7.out; first | omega | exact Nat.le_refl _⟩, ⟨by repeat (first | (with_reducible first | exact HI0.out | apply IsS69.alloc | apply IsS69.drewN | apply IsS69.drew | apply IsS69.set_0 | apply IsS69.set_1 | apply IsS69.set_2 | apply IsS69.set_3 | apply IsS69.set_4 | apply IsS69.set_5) | exact HI0.out)⟩, ⟨by repeat (first | (with_reducible first | exact HK.out | apply KeepBut.set_ | apply keep_drewN | apply keep_drew | apply keep_alloc) | exact HK.out)⟩, ⟨by repeat (first | (with_reducible first | exact HB.out | apply below_alloc | apply pw_below_drewN | apply below_drew1 | refine below_set ?_ (IsS69.ge HI0.out)) | exact HB.out)⟩⟩
        ·rw [if_neg c27] at H
         have c27b0 : (t112 == 4) = false := beq_eq_false_iff_ne.mpr c27
         have c27b1 : (t112 != 4) = true := bne_iff_ne.mpr c27
         by_cases c33 : t112 = 8
         ·rw [if_pos c33] at H
          have c33b0 : (t112 == 8) = true := beq_iff_eq.mpr c33
          have c33b1 : (t112 != 8) = false := bne_eq_false_iff_eq.mpr c33
          clear c33
          have H' := Aside0.mk H
          clear H
          obtain ⟨HGz34, hgz34⟩ := HI0.out
          have hcz34_0 := cellS69_0 HGz34
          have hcz34_1 := cellS69_1 HGz34
          have hcz34_2 := cellS69_2 HGz34
          have hcz34_3 := cellS69_3 HGz34
          have hcz34_4 := cellS69_4 HGz34
          have hcz34_5 := cellS69_5 HGz34
          have hfz34_0 := blk_frozen HGz34 0
          have hfz34_1 := blk_frozen HGz34 1
          have hfz34_2 := blk_frozen HGz34 2
          have hfz34_3 := blk_frozen HGz34 3
          have hfz34_4 := blk_frozen HGz34 4
          have hfz34_5 := blk_frozen HGz34 5
          clear HGz34 hgz34
          go_wp2
          repeat (go_quiet (fail); try go_wp2)
          go_meet
          case rel => exact ⟨_, (true), (by first | rfl | (simp; done) | (simp [*]; done)), H', ⟨by have := HJ7.out; first | omega | exact Nat.le_refl _⟩, ⟨by repeat (first | (with_reducible first | exact HI0.out | apply IsS69.alloc | apply IsS69.drewN | apply IsS69.drew | apply IsS69.set_0 | apply IsS69.set_1 | apply IsS69.set_2 | apply IsS69.set_3 | apply IsS69.set_4 | apply IsS69.set_5) | exact HI0.out)⟩, ⟨by repeat (first | (with_reducible first | exact HK.out | apply KeepBut.set_ | apply keep_drewN | apply keep_drew | apply keep_alloc) | exact HK.out)⟩, ⟨by repeat (first | (with_reducible first | exact HB.out | apply below_alloc | apply pw_below_drewN | apply below_drew1 | refine below_set ?_ (IsS69.ge HI0.out)) | exact HB.out)⟩⟩
         ·rw [if_neg c33] at H
          have c33b0 : (t112 == 8) = false := beq_eq_false_iff_ne.mpr c33
          have c33b1 : (t112 != 8) = true := bne_iff_ne.mpr c33
          have H' := Aside0.mk H
          clear H
          obtain ⟨HGz35, hgz35⟩ := HI0.out
          have hcz35_0 := cellS69_0 HGz35
          have hcz35_1 := cellS69_1 HGz35
          have hcz35_2 := cellS69_2 HGz35
          have hcz35_3 := cellS69_3 HGz35
          have hcz35_4 := cellS69_4 HGz35
          have hcz35_5 := cellS69_5 HGz35
          have hfz35_0 := blk_frozen HGz35 0
          have hfz35_1 := blk_frozen HGz35 1
          have hfz35_2 := blk_frozen HGz35 2
          have hfz35_3 := blk_frozen HGz35 3
          have hfz35_4 := blk_frozen HGz35 4
          have hfz35_5 := blk_frozen HGz35 5
          clear HGz35 hgz35
          go_wp2
          repeat (go_quiet (fail); try go_wp2)
          go_meet
          case rel => exact ⟨_, ((s0_3 == 7)), (by first | rfl | (simp; done) | (simp [*]; done)), H', ⟨by have := HJ7.out; first | omega | exact Nat.le_refl _⟩, ⟨by repeat (first | (with_reducible first | exact HI0.out | apply IsS69.alloc | apply IsS69.drewN | apply IsS69.drew | apply IsS69.set_0 | apply IsS69.set_1 | apply IsS69.set_2 | apply IsS69.set_3 | apply IsS69.set_4 | apply IsS69.set_5) | exact HI0.out)⟩, ⟨by repeat (first | (with_reducible first | exact HK.out | apply KeepBut.set_ | apply keep_drewN | apply keep_drew | apply keep_alloc) | exact HK.out)⟩, ⟨by repeat (first | (with_reducible first | exact HB.out | apply below_alloc | apply pw_below_drewN | apply below_drew1 | refine below_set ?_ (IsS69.ge HI0.out)) | exact HB.out)⟩⟩
      case rest =>
       clear HC23
       try clear c1
       try clear c2
       try clear p2
       try clear c3
       try clear c5
       try clear c5b0
       try clear c5b1
       try clear c11
       try clear c13
       try clear c13b0
       try clear c13b1
       try clear c15
       try clear c15b0
       try clear c15b1
       try clear c17
       try clear c17b0
       try clear c17b1
       try clear c20
       try clear c21
       try clear c21b0
       try clear c21b1
       try clear c25
       try clear c25b0
       try clear c25b1
       try clear c27
       try clear c27b0
       try clear c27b1
       try clear c28
       try clear c28b0
       try clear c28b1
       try clear c30
       try clear c30b0
       try clear c30b1
       try clear c31
       try clear c33
       try clear c33b0
       try clear c33b1
       try clear hcz10_0
       try clear hcz10_1
       try clear hcz10_2
       try clear hcz10_3
       try clear hcz10_4
       try clear hcz10_5
       try clear hcz12_0
       try clear hcz12_1
       try clear hcz12_2
       try clear hcz12_3
       try clear hcz12_4
       try clear hcz12_5
       try clear hcz14_0
       try clear hcz14_1
       try clear hcz14_2
       try clear hcz14_3
       try clear hcz14_4
       try clear hcz14_5
       try clear hcz16_0
       try clear hcz16_1
       try clear hcz16_2
       try clear hcz16_3
       try clear hcz16_4
       try clear hcz16_5
       try clear hcz18_0
       try clear hcz18_1
       try clear hcz18_2
       try clear hcz18_3
       try clear hcz18_4
       try clear hcz18_5
       try clear hcz19_0
       try clear hcz19_1
       try clear hcz19_2
       try clear hcz19_3
       try clear hcz19_4
       try clear hcz19_5
       try clear hcz22_0
       try clear hcz22_1
       try clear hcz22_2
       try clear hcz22_3
       try clear hcz22_4
       try clear hcz22_5
       try clear hcz24_0
       try clear hcz24_1
       try clear hcz24_2
       try clear hcz24_3
       try clear hcz24_4
       try clear hcz24_5
       try clear hcz26_0
       try clear hcz26_1
       try clear hcz26_2
       try clear hcz26_3
       try clear hcz26_4
       try clear hcz26_5
       try clear hcz29_0
       try clear hcz29_1
       try clear hcz29_2
       try clear hcz29_3
       try clear hcz29_4
       try clear hcz29_5
       try clear hcz31_0
       try clear hcz31_1
       try clear hcz31_2
       try clear hcz31_3
       try clear hcz31_4
       try clear hcz31_5
       try clear hcz32_0
       try clear hcz32_1
       try clear hcz32_2
       try clear hcz32_3
       try clear hcz32_4
       try clear hcz32_5
       try clear hcz34_0
       try clear hcz34_1
       try clear hcz34_2
       try clear hcz34_3
       try clear hcz34_4
       try clear hcz34_5
       try clear hcz35_0
       try clear hcz35_1
       try clear hcz35_2
       try clear hcz35_3
       try clear hcz35_4
       try clear hcz35_5
       try clear hcz7_0
       try clear hcz7_1
       try clear hcz7_2
       try clear hcz7_3
       try clear hcz7_4
       try clear hcz7_5
       try clear hfz10_0
       try clear hfz10_1
       try clear hfz10_2
       try clear hfz10_3
       try clear hfz10_4
       try clear hfz10_5
       try clear hfz12_0
       try clear hfz12_1
       try clear hfz12_2
       try clear hfz12_3
       try clear hfz12_4
       try clear hfz12_5
       try clear hfz14_0
       try clear hfz14_1
       try clear hfz14_2
       try clear hfz14_3
       try clear hfz14_4
       try clear hfz14_5
       try clear hfz16_0
       try clear hfz16_1
       try clear hfz16_2
       try clear hfz16_3
       try clear hfz16_4
       try clear hfz16_5
       try clear hfz18_0
       try clear hfz18_1
       try clear hfz18_2
       try clear hfz18_3
       try clear hfz18_4
       try clear hfz18_5
       try clear hfz19_0
       try clear hfz19_1
       try clear hfz19_2
       try clear hfz19_3
       try clear hfz19_4
       try clear hfz19_5
       try clear hfz22_0
       try clear hfz22_1
       try clear hfz22_2
       try clear hfz22_3
       try clear hfz22_4
       try clear hfz22_5
       try clear hfz24_0
       try clear hfz24_1
       try clear hfz24_2
       try clear hfz24_3
       try clear hfz24_4
       try clear hfz24_5
       try clear hfz26_0
       try clear hfz26_1
       try clear hfz26_2
       try clear hfz26_3
       try clear hfz26_4
       try clear hfz26_5
       try clear hfz29_0
       try clear hfz29_1
       try clear hfz29_2
       try clear hfz29_3
       try clear hfz29_4
       try clear hfz29_5
       try clear hfz31_0
       try clear hfz31_1
       try clear hfz31_2
       try clear hfz31_3
       try clear hfz31_4
       try clear hfz31_5
       try clear hfz32_0
       try clear hfz32_1
       try clear hfz32_2
       try clear hfz32_3
       try clear hfz32_4
       try clear hfz32_5
       try clear hfz34_0
       try clear hfz34_1
       try clear hfz34_2
       try clear hfz34_3
       try clear hfz34_4
       try clear hfz34_5
       try clear hfz35_0
       try clear hfz35_1
       try clear hfz35_2
       try clear hfz35_3
       try clear hfz35_4
       try clear hfz35_5
       try clear hfz7_0
       try clear hfz7_1
       try clear hfz7_2
       try clear hfz7_3
       try clear hfz7_4
       try clear hfz7_5
       try clear p2
       obtain ⟨kq, x42_22, rfl, HA, HJ22, HI0, HK, HB⟩ := hcut
       cases kq with
       | zero => exact absurd HA.out (by simp [breaks_scan_may.j1])
       | succ kj22 =>
        have H := HA.out
        clear HA
        simp only [breaks_scan_may.j1] at H
        by_cases c36 : x42_22 = true
        ·subst c36
         have H1 : (some (0, false, s0_0, s0_1, s0_2, s0_3, s0_4, s0_5)) = some (r1, r2, r3, r4, r5, r6, r7, r8) := by rw [if_pos rfl] at H; exact H
         clear H
         have H := H1
         clear H1
         simp only [Option.some.injEq, Prod.mk.injEq] at H
         obtain ⟨rfl, rfl, rfl, rfl, rfl, rfl, rfl, rfl⟩ := H
         go_wp2
         repeat (go_quiet (fail); try go_wp2)
         go_ret2
         exact ⟨by first | rfl | (simp [errW_none, errW_some] <;> rfl) | (simp [*, errW_none, errW_some] <;> rfl), by repeat (first | (with_reducible first | exact HI0.out | apply IsS69.alloc | apply IsS69.drewN | apply IsS69.drew | apply IsS69.set_0 | apply IsS69.set_1 | apply IsS69.set_2 | apply IsS69.set_3 | apply IsS69.set_4 | apply IsS69.set_5) | exact HI0.out), by repeat (first | (with_reducible first | exact HB.out | apply below_alloc | apply pw_below_drewN | apply below_drew1 | refine below_set ?_ (IsS69.ge HI0.out)) | exact HB.out), by repeat (first | (with_reducible first | exact HK.out | apply KeepBut.set_ | apply keep_drewN | apply keep_drew | apply keep_alloc) | exact HK.out)⟩
        ·replace c36 := Bool.eq_false_iff.mpr c36
         subst c36
         have H1 : (if s0_2 > 0 then (some (0, true, s0_0, s0_1, s0_2, s0_3, s0_4, s0_5)) else (if s0_0 = 6 then (some (1, true, s0_0, s0_1, s0_2, s0_3, s0_4, s0_5)) else (if s0_0 = 5 then (if t112 = 11 then (some (0, false, s0_0, s0_1, s0_2, s0_3, s0_4, s0_5)) else (if s0_1 = 2 then (some (0, false, s0_0, s0_1, s0_2, s0_3, s0_4, s0_5)) else (some (0, (s0_1 != 1), s0_0, s0_1, s0_2, s0_3, s0_4, s0_5)))) else (if s0_0 = 9 then (some (0, true, s0_0, s0_1, s0_2, s0_3, s0_4, s0_5)) else (if t112 = 9 then (some (0, true, s0_0, s0_1, s0_2, s0_3, s0_4, s0_5)) else (some (0, false, s0_0, s0_1, s0_2, s0_3, s0_4, s0_5))))))) = some (r1, r2, r3, r4, r5, r6, r7, r8) := by rw [if_neg (show ¬ (false = true) by decide)] at H; exact H
         clear H
         have H := H1
         clear H1
         by_cases c37 : s0_2 > 0
         ·rw [if_pos c37] at H
          have c37b0 : decide (0 < s0_2) = true := decide_eq_true c37
          clear c37
          simp only [Option.some.injEq, Prod.mk.injEq] at H
          obtain ⟨rfl, rfl, rfl, rfl, rfl, rfl, rfl, rfl⟩ := H
          obtain ⟨HGz38, hgz38⟩ := HI0.out
          have hcz38_0 := cellS69_0 HGz38
          have hcz38_1 := cellS69_1 HGz38
          have hcz38_2 := cellS69_2 HGz38
          have hcz38_3 := cellS69_3 HGz38
          have hcz38_4 := cellS69_4 HGz38
          have hcz38_5 := cellS69_5 HGz38
          have hfz38_0 := blk_frozen HGz38 0
          have hfz38_1 := blk_frozen HGz38 1
          have hfz38_2 := blk_frozen HGz38 2
          have hfz38_3 := blk_frozen HGz38 3
          have hfz38_4 := blk_frozen HGz38 4
          have hfz38_5 := blk_frozen HGz38 5
          clear HGz38 hgz38
          go_wp2
          repeat (go_quiet (fail); try go_wp2)
          go_ret2
          exact ⟨by first | rfl | (simp [errW_none, errW_some] <;> rfl) | (simp [*, errW_none, errW_some] <;> rfl), by repeat (first | (with_reducible first | exact HI0.out | apply IsS69.alloc | apply IsS69.drewN | apply IsS69.drew | apply IsS69.set_0 | apply IsS69.set_1 | apply IsS69.set_2 | apply IsS69.set_3 | apply IsS69.set_4 | apply IsS69.set_5) | exact HI0.out), by repeat (first | (with_reducible first | exact HB.out | apply below_alloc | apply pw_below_drewN | apply below_drew1 | refine below_set ?_ (IsS69.ge HI0.out)) | exact HB.out), by repeat (first | (with_reducible first | exact HK.out | apply KeepBut.set_ | apply keep_drewN | apply keep_drew | apply keep_alloc) | exact HK.out)⟩
         ·rw [if_neg c37] at H
          have c37b0 : decide (0 < s0_2) = false := decide_eq_false c37
          clear c37
          by_cases c39 : s0_0 = 6
          ·rw [if_pos c39] at H
           have c39b0 : (s0_0 == 6) = true := beq_iff_eq.mpr c39
           have c39b1 : (s0_0 != 6) = false := bne_eq_false_iff_eq.mpr c39
           clear c39
           simp only [Option.some.injEq, Prod.mk.injEq] at H
           obtain ⟨rfl, rfl, rfl, rfl, rfl, rfl, rfl, rfl⟩ := H
           obtain ⟨HGz40, hgz40⟩ := HI0.out
           have hcz40_0 := cellS69_0 HGz40
           have hcz40_1 := cellS69_1 HGz40
           have hcz40_2 := cellS69_2 HGz40
           have hcz40_3 := cellS69_3 HGz40
           have hcz40_4 := cellS69_4 HGz40
           have hcz40_5 := cellS69_5 HGz40
           have hfz40_0 := blk_frozen HGz40 0
           have hfz40_1 := blk_frozen HGz40 1
           have hfz40_2 := blk_frozen HGz40 2
           have hfz40_3 := blk_frozen HGz40 3
           have hfz40_4 := blk_frozen HGz40 4
           have hfz40_5 := blk_frozen HGz40 5
           clear HGz40 hgz40
           go_wp2
           repeat (go_quiet (fail); try go_wp2)
           go_ret2
           exact ⟨by first | rfl | (simp [errW_none, errW_some] <;> rfl) | (simp [*, errW_none, errW_some] <;> rfl), by repeat (first | (with_reducible first | exact HI0.out | apply IsS69.alloc | apply IsS69.drewN | apply IsS69.drew | apply IsS69.set_0 | apply IsS69.set_1 | apply IsS69.set_2 | apply IsS69.set_3 | apply IsS69.set_4 | apply IsS69.set_5) | exact HI0.out), by repeat (first | (with_reducible first | exact HB.out | apply below_alloc | apply pw_below_drewN | apply below_drew1 | refine below_set ?_ (IsS69.ge HI0.out)) | exact HB.out), by repeat (first | (with_reducible first | exact HK.out | apply KeepBut.set_ | apply keep_drewN | apply keep_drew | apply keep_alloc) | exact HK.out)⟩
          ·rw [if_neg c39] at H
           have c39b0 : (s0_0 == 6) = false := beq_eq_false_iff_ne.mpr c39
           have c39b1 : (s0_0 != 6) = true := bne_iff_ne.mpr c39
           by_cases c41 : s0_0 = 5
           ·rw [if_pos c41] at H
            have c41b0 : (s0_0 == 5) = true := beq_iff_eq.mpr c41
            have c41b1 : (s0_0 != 5) = false := bne_eq_false_iff_eq.mpr c41
            clear c41
            by_cases c42 : t112 = 11
            ·rw [if_pos c42] at H
             have c42b0 : (t112 == 11) = true := beq_iff_eq.mpr c42
             have c42b1 : (t112 != 11) = false := bne_eq_false_iff_eq.mpr c42
             clear c42
             simp only [Option.some.injEq, Prod.mk.injEq] at H
             obtain ⟨rfl, rfl, rfl, rfl, rfl, rfl, rfl, rfl⟩ := H
             obtain ⟨HGz43, hgz43⟩ := HI0.out
             have hcz43_0 := cellS69_0 HGz43
             have hcz43_1 := cellS69_1 HGz43
             have hcz43_2 := cellS69_2 HGz43
             have hcz43_3 := cellS69_3 HGz43
             have hcz43_4 := cellS69_4 HGz43
             have hcz43_5 := cellS69_5 HGz43
             have hfz43_0 := blk_frozen HGz43 0
             have hfz43_1 := blk_frozen HGz43 1
             have hfz43_2 := blk_frozen HGz43 2
             have hfz43_3 := blk_frozen HGz43 3
             have hfz43_4 := blk_frozen HGz43 4
             have hfz43_5 := blk_frozen HGz43 5
             clear HGz43 hgz43
             go_wp2
             repeat (go_quiet (fail); try go_wp2)
             go_ret2
             exact ⟨by first | rfl | (simp [errW_none, errW_some] <;> rfl) | (simp [*, errW_none, errW_some] <;> rfl), by repeat (first | (with_reducible first | exact HI0.out | apply IsS69.alloc | apply IsS69.drewN | apply IsS69.drew | apply IsS69.set_0 | apply IsS69.set_1 | apply IsS69.set_2 | apply IsS69.set_3 | apply IsS69.set_4 | apply IsS69.set_5) | exact HI0.out), by repeat (first | (with_reducible first | exact HB.out | apply below_alloc | apply pw_below_drewN | apply below_drew1 | refine below_set ?_ (IsS69.ge HI0.out)) | exact HB.out), by repeat (first | (with_reducible first | exact HK.out | apply KeepBut.set_ | apply keep_drewN | apply keep_drew | apply keep_alloc) | exact HK.out)⟩
            ·rw [if_neg c42] at H
             have c42b0 : (t112 == 11) = false := beq_eq_false_iff_ne.mpr c42
             have c42b1 : (t112 != 11) = true := bne_iff_ne.mpr c42
             by_cases c44 : s0_1 = 2
             ·rw [if_pos c44] at H
              have c44b0 : (s0_1 == 2) = true := beq_iff_eq.mpr c44
              have c44b1 : (s0_1 != 2) = false := bne_eq_false_iff_eq.mpr c44
              clear c44
              simp only [Option.some.injEq, Prod.mk.injEq] at H
              obtain ⟨rfl, rfl, rfl, rfl, rfl, rfl, rfl, rfl⟩ := H
              obtain ⟨HGz45, hgz45⟩ := HI0.out
              have hcz45_0 := cellS69_0 HGz45
              have hcz45_1 := cellS69_1 HGz45
              have hcz45_2 := cellS69_2 HGz45
              have hcz45_3 := cellS69_3 HGz45
              have hcz45_4 := cellS69_4 HGz45
              have hcz45_5 := cellS69_5 HGz45
              have hfz45_0 := blk_frozen HGz45 0
              have hfz45_1 := blk_frozen HGz45 1
              have hfz45_2 := blk_frozen HGz45 2
              have hfz45_3 := blk_frozen HGz45 3
              have hfz45_4 := blk_frozen HGz45 4
              have hfz45_5 := blk_frozen HGz45 5
              clear HGz45 hgz45
              go_wp2
              repeat (go_quiet (fail); try go_wp2)
              go_ret2
              exact ⟨by first | rfl | (simp [errW_none, errW_some] <;> rfl) | (simp [*, errW_none, errW_some] <;> rfl), by repeat (first | (with_reducible first | exact HI0.out | apply IsS69.alloc | apply IsS69.drewN | apply IsS69.drew | apply IsS69.set_0 | apply IsS69.set_1 | apply IsS69.set_2 | apply IsS69.set_3 | apply IsS69.set_4 | apply IsS69.set_5) | exact HI0.out), by repeat (first | (with_reducible first | exact HB.out | apply below_alloc | apply pw_below_drewN | apply below_drew1 | refine below_set ?_ (IsS69.ge HI0.out)) | exact HB.out), by repeat (first | (with_reducible first | exact HK.out | apply KeepBut.set_ | apply keep_drewN | apply keep_drew | apply keep_alloc) | exact HK.out)⟩
             ·rw [if_neg c44] at H
              have c44b0 : (s0_1 == 2) = false := beq_eq_false_iff_ne.mpr c44
              have c44b1 : (s0_1 != 2) = true := bne_iff_ne.mpr c44
              simp only [Option.some.injEq, Prod.mk.injEq] at H
              obtain ⟨rfl, rfl, rfl, rfl, rfl, rfl, rfl, rfl⟩ := H
              obtain ⟨HGz46, hgz46⟩ := HI0.out
              have hcz46_0 := cellS69_0 HGz46
              have hcz46_1 := cellS69_1 HGz46
              have hcz46_2 := cellS69_2 HGz46
              have hcz46_3 := cellS69_3 HGz46
              have hcz46_4 := cellS69_4 HGz46
              have hcz46_5 := cellS69_5 HGz46
              have hfz46_0 := blk_frozen HGz46 0
              have hfz46_1 := blk_frozen HGz46 1
              have hfz46_2 := blk_frozen HGz46 2
              have hfz46_3 := blk_frozen HGz46 3
              have hfz46_4 := blk_frozen HGz46 4
              have hfz46_5 := blk_frozen HGz46 5
              clear HGz46 hgz46
              go_wp2
              repeat (go_quiet (fail); try go_wp2)
              go_ret2
              exact ⟨by first | rfl | (simp [errW_none, errW_some] <;> rfl) | (simp [*, errW_none, errW_some] <;> rfl), by repeat (first | (with_reducible first | exact HI0.out | apply IsS69.alloc | apply IsS69.drewN | apply IsS69.drew | apply IsS69.set_0 | apply IsS69.set_1 | apply IsS69.set_2 | apply IsS69.set_3 | apply IsS69.set_4 | apply IsS69.set_5) | exact HI0.out), by repeat (first | (with_reducible first | exact HB.out | apply below_alloc | apply pw_below_drewN | apply below_drew1 | refine below_set ?_ (IsS69.ge HI0.out)) | exact HB.out), by repeat (first | (with_reducible first | exact HK.out | apply KeepBut.set_ | apply keep_drewN | apply keep_drew | apply keep_alloc) | exact HK.out)⟩
           ·rw [if_neg c41] at H
            have c41b0 : (s0_0 == 5) = false := beq_eq_false_iff_ne.mpr c41
            have c41b1 : (s0_0 != 5) = true := bne_iff_ne.mpr c41
            by_cases c47 : s0_0 = 9
            ·rw [if_pos c47] at H
             have c47b0 : (s0_0 == 9) = true := beq_iff_eq.mpr c47
             have c47b1 : (s0_0 != 9) = false := bne_eq_false_iff_eq.mpr c47
             clear c47
             simp only [Option.some.injEq, Prod.mk.injEq] at H
             obtain ⟨rfl, rfl, rfl, rfl, rfl, rfl, rfl, rfl⟩ := H
             obtain ⟨HGz48, hgz48⟩ := HI0.out
             have hcz48_0 := cellS69_0 HGz48
             have hcz48_1 := cellS69_1 HGz48
             have hcz48_2 := cellS69_2 HGz48
             have hcz48_3 := cellS69_3 HGz48
             have hcz48_4 := cellS69_4 HGz48
             have hcz48_5 := cellS69_5 HGz48
             have hfz48_0 := blk_frozen HGz48 0
             have hfz48_1 := blk_frozen HGz48 1
             have hfz48_2 := blk_frozen HGz48 2
             have hfz48_3 := blk_frozen HGz48 3
             have hfz48_4 := blk_frozen HGz48 4
             have hfz48_5 := blk_frozen HGz48 5
             clear HGz48 hgz48
             go_wp2
             repeat (go_quiet (fail); try go_wp2)
             go_ret2
             exact ⟨by first | rfl | (simp [errW_none, errW_some] <;> rfl) | (simp [*, errW_none, errW_some] <;> rfl), by repeat (first | (with_reducible first | exact HI0.out | apply IsS69.alloc | apply IsS69.drewN | apply IsS69.drew | apply IsS69.set_0 | apply IsS69.set_1 | apply IsS69.set_2 | apply IsS69.set_3 | apply IsS69.set_4 | apply IsS69.set_5) | exact HI0.out), by repeat (first | (with_reducible first | exact HB.out | apply below_alloc | apply pw_below_drewN | apply below_drew1 | refine below_set ?_ (IsS69.ge HI0.out)) | exact HB.out), by repeat (first | (with_reducible first | exact HK.out | apply KeepBut.set_ | apply keep_drewN | apply keep_drew | apply keep_alloc) | exact HK.out)⟩
            ·rw [if_neg c47] at H
             have c47b0 : (s0_0 == 9) = false := beq_eq_false_iff_ne.mpr c47
             have c47b1 : (s0_0 != 9) = true := bne_iff_ne.mpr c47
             by_cases c49 : t112 = 9
             ·rw [if_pos c49] at H
              have c49b0 : (t112 == 9) = true := beq_iff_eq.mpr c49
              have c49b1 : (t112 != 9) = false := bne_eq_false_iff_eq.mpr c49
              clear c49
              simp only [Option.some.injEq, Prod.mk.injEq] at H
              obtain ⟨rfl, rfl, rfl, rfl, rfl, rfl, rfl, rfl⟩ := H
              obtain ⟨HGz50, hgz50⟩ := HI0.out
              have hcz50_0 := cellS69_0 HGz50
              have hcz50_1 := cellS69_1 HGz50
              have hcz50_2 := cellS69_2 HGz50
              have hcz50_3 := cellS69_3 HGz50
              have hcz50_4 := cellS69_4 HGz50
              have hcz50_5 := cellS69_5 HGz50
              have hfz50_0 := blk_frozen HGz50 0
              have hfz50_1 := blk_frozen HGz50 1
              have hfz50_2 := blk_frozen HGz50 2
              have hfz50_3 := blk_frozen HGz50 3
              have hfz50_4 := blk_frozen HGz50 4
              have hfz50_5 := blk_frozen HGz50 5
              clear HGz50 hgz50
              go_wp2
              repeat (go_quiet (fail); try go_wp2)
              go_ret2
              exact ⟨by first | rfl | (simp [errW_none, errW_some] <;> rfl) | (simp [*, errW_none, errW_some] <;> rfl), by repeat (first | (with_reducible first | exact HI0.out | apply IsS69.alloc | apply IsS69.drewN | apply IsS69.drew | apply IsS69.set_0 | apply IsS69.set_1 | apply IsS69.set_2 | apply IsS69.set_3 | apply IsS69.set_4 | apply IsS69.set_5) | exact HI0.out), by repeat (first | (with_reducible first | exact HB.out | apply below_alloc | apply pw_below_drewN | apply below_drew1 | refine below_set ?_ (IsS69.ge HI0.out)) | exact HB.out), by repeat (first | (with_reducible first | exact HK.out | apply KeepBut.set_ | apply keep_drewN | apply keep_drew | apply keep_alloc) | exact HK.out)⟩
             ·rw [if_neg c49] at H
              have c49b0 : (t112 == 9) = false := beq_eq_false_iff_ne.mpr c49
              have c49b1 : (t112 != 9) = true := bne_iff_ne.mpr c49
              simp only [Option.some.injEq, Prod.mk.injEq] at H
              obtain ⟨rfl, rfl, rfl, rfl, rfl, rfl, rfl, rfl⟩ := H
              obtain ⟨HGz51, hgz51⟩ := HI0.out
              have hcz51_0 := cellS69_0 HGz51
              have hcz51_1 := cellS69_1 HGz51
              have hcz51_2 := cellS69_2 HGz51
              have hcz51_3 := cellS69_3 HGz51
              have hcz51_4 := cellS69_4 HGz51
              have hcz51_5 := cellS69_5 HGz51
              have hfz51_0 := blk_frozen HGz51 0
              have hfz51_1 := blk_frozen HGz51 1
              have hfz51_2 := blk_frozen HGz51 2
              have hfz51_3 := blk_frozen HGz51 3
              have hfz51_4 := blk_frozen HGz51 4
              have hfz51_5 := blk_frozen HGz51 5
              clear HGz51 hgz51
              go_wp2
              repeat (go_quiet (fail); try go_wp2)
              go_ret2
              exact ⟨by first | rfl | (simp [errW_none, errW_some] <;> rfl) | (simp [*, errW_none, errW_some] <;> rfl), by repeat (first | (with_reducible first | exact HI0.out | apply IsS69.alloc | apply IsS69.drewN | apply IsS69.drew | apply IsS69.set_0 | apply IsS69.set_1 | apply IsS69.set_2 | apply IsS69.set_3 | apply IsS69.set_4 | apply IsS69.set_5) | exact HI0.out), by repeat (first | (with_reducible first | exact HB.out | apply below_alloc | apply pw_below_drewN | apply below_drew1 | refine below_set ?_ (IsS69.ge HI0.out)) | exact HB.out), by repeat (first | (with_reducible first | exact HK.out | apply KeepBut.set_ | apply keep_drewN | apply keep_drew | apply keep_alloc) | exact HK.out)⟩

end Go.Proofs.YtohaoaiffneamaaDoor.QBreaks
