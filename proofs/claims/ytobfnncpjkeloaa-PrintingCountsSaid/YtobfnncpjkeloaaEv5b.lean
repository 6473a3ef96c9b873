import Derived.Test.YtobfnncpjkeloaaEv5
import Derived.Maps.AppendAt
namespace Go.Proofs.Ytobfnncpjkeloaa.Ev
open Go Go.RowKit Go.Proofs.YtobfnncpjkeloaaW.PrintLast
/-! #### own rows -/
/-- One of two cells: where both are numbers (or truth values), it is told as one. -/
def mrg (c : Bool) (x y : PS) : PS := match x, y with
  | .int k a, .int k' b => if k = k' then .int k (bif c then a else b) else (bif c then .int k a else .int k' b)
  | .bool a, .bool b => .bool (bif c then a else b)
  | x, y => bif c then x else y
theorem mrg_eq (c : Bool) (x y : PS) : mrg c x y = if c = true then x else y := by
  unfold mrg
  split
  · rename_i k a k' b
    split
    · rename_i h; subst h; cases c <;> rfl
    · cases c <;> rfl
  · cases c <;> rfl
  · cases c <;> rfl
def putRow (row : Nat → Nat → PS) (i off : Nat) (vl : List PS) : Nat → Nat → PS := fun i1 j1 => mrg ((decide (off ≤ j1) && decide (j1 < off + vl.length)) && i1 == i) (vl.getD (j1 - off) .nilp) (row i1 j1)
def appRow (n : Nat) (row new : Nat → Nat → PS) : Nat → Nat → PS := fun i j => mrg (decide (i < n)) (row i j) (new (i - n) j)
theorem putRow_eq (row : Nat → Nat → PS) (i off : Nat) (vl : List PS) (i1 j1 : Nat) : putRow row i off vl i1 j1 = if (i1 == i && (decide (off ≤ j1) && decide (j1 < off + vl.length))) = true then vl.getD (j1 - off) .nilp else row i1 j1 := by
  unfold putRow; rw [mrg_eq, Bool.and_comm]
theorem appRow_eq (n : Nat) (row new : Nat → Nat → PS) (i j : Nat) : appRow n row new i j = if i < n then row i j else new (i - n) j := by
  unfold appRow; rw [mrg_eq]; simp only [decide_eq_true_eq]
/-- A row's cells written out. -/
def litRow (e : Nat) (l : List PS) : Nat → Nat → PS := fun i j => if l.length = e then l.getD j .nilp else l.getD (i * e + j) .nilp
theorem litRow_at {e n i j : Nat} {l : List PS} (hl : l.length = n * e) (hi : i < n) (hj : j < e) : litRow e l i j = l.getD (i * e + j) .nilp := by
  unfold litRow
  split
  · rename_i h
    have hn : n = 1 := by
      have h1 : n * e = 1 * e := by rw [← hl, h, Nat.one_mul]
      exact Nat.eq_of_mul_eq_mul_right (by omega) h1
    have : i = 0 := by omega
    subst this
    rw [Nat.zero_mul, Nat.zero_add]
  · rfl
def killS (o : Nat) (s : PS) : PS := if okS (fun x => x != o) s = true then s else .junk
def killOB (o : Nat) : OB → OB
  | .box l => .box (l.map (killS o))
  | .out t n b hole => if b = o then .dead else .out t n b hole
  | ob => ob
def killH (o : Nat) (H : Heap) : Heap := (H.filter (fun x => x.1 != o)).map fun x => (x.1, killOB o x.2)
section mem
variable {nb : Nat} {w : World} {F : Nat → Prop} {β : Blocks} {H : Heap}
theorem RS_plain {s : PS} {v : Value} (hn : noPtr s = true) (h : RS w F β s v) : RF w F s v := (RS_of hn).1 h
theorem idx_eq {i1 i j1 off e len : Nat} (hj : j1 < e) (ho : off + len ≤ e) : (i * e + off ≤ i1 * e + j1 ∧ i1 * e + j1 < i * e + off + len) ↔ (i1 = i ∧ off ≤ j1 ∧ j1 < off + len) := by
  constructor
  · rintro ⟨h1, h2⟩
    have h3 : i1 = i := by
      rcases Nat.lt_trichotomy i1 i with h | h | h
      · have : i1 * e + e ≤ i * e := by rw [← Nat.succ_mul]; exact Nat.mul_le_mul_right _ h
        omega
      · exact h
      · have : i * e + e ≤ i1 * e := by rw [← Nat.succ_mul]; exact Nat.mul_le_mul_right _ h
        omega
    subst h3
    exact ⟨rfl, by omega, by omega⟩
  · rintro ⟨rfl, h1, h2⟩
    exact ⟨by omega, by omega⟩
theorem row_lt {i e n j : Nat} (hi : i < n) (hj : j < e) : i * e + j < n * e := by
  have : i * e + e ≤ n * e := by rw [← Nat.succ_mul]; exact Nat.mul_le_mul_right _ hi
  omega
/-- A store into a row. -/
theorem set_row (hI : Inv nb w F β H) {o t e n i off : Nat} {row : Nat → Nat → PS} {vl : List PS} (hm : (o, .rows t e n row) ∈ H) {b n' c' : Nat} (hb : β o = some (.slice (some ⟨b, 0, none⟩) n' c')) {vs : List Value} (hv : All2 (RS w F β) vl vs) (hn : vl.all noPtr = true) (hi : i < n) (hlen : off + vl.length ≤ e) :
    w.there b (i * e + off) vs.length ∧ Inv nb (w.setCells b (i * e + off) vs) F β (setH H o (.rows t e n (putRow row i off vl))) ∧ Run (fun _ => true) w F β H (w.setCells b (i * e + off) vs) F β (setH H o (.rows t e n (putRow row i off vl))) := by
  obtain ⟨_, v, xs, h1, h2, h3⟩ := hI.obj o _ hm
  rw [hb] at h1
  obtain rfl := Option.some.inj h1
  have e1 : vl.length = vs.length := hv.length
  rcases h2.2 with ⟨h4, _⟩ | ⟨g, cap, cur, h4, hg, hh, hcap, hmax, hsz, htake⟩
  · cases h4
  cases h4
  have hle : n * e ≤ c' * e := Nat.mul_le_mul_right _ hcap
  have hlt : i * e + off + vs.length ≤ n * e := by
    have : i * e + e ≤ n * e := by rw [← Nat.succ_mul]; exact Nat.mul_le_mul_right _ hi
    omega
  refine ⟨fun j hj => ⟨?_, ?_⟩, set_ok hI hm hb rfl vs (fun hst => ?_)⟩
  · rw [cell_of_row w b (i * e + off + j) cur t (0, 0) hh]
    rw [Array.getElem?_eq_getElem (by omega)]; rfl
  · unfold World.frozen?
    simp [hh]
  · obtain ⟨c2, h5, h6⟩ := heap_setCells_at b t vs (i * e + off) w cur hh (by omega)
    have hl2 : c2.size = cur.size := by
      have := congrArg List.length h6
      simp at this
      omega
    refine ⟨_, c2.toList.take (n * e), hb, ⟨by rw [List.length_take]; simp; omega, .inr ⟨b, c', c2, rfl, hg, h5, hcap, hmax, by omega, rfl⟩⟩, fun i1 j1 hi1 hj1 => ?_⟩
    have hidx : i1 * e + j1 < n * e := row_lt hi1 hj1
    obtain ⟨u0, h7, h8⟩ := h3 i1 j1 hi1 hj1
    rw [← htake, List.getElem?_take, if_pos hidx] at h7
    have h7' : cur[i1 * e + j1]? = some u0 := by simpa using h7
    have iff := idx_eq (i1 := i1) (i := i) (len := vl.length) hj1 hlen
    have hlt0 : (cur.toList.take (i * e + off)).length = i * e + off := by rw [List.length_take]; simp; omega
    by_cases hin : i1 = i ∧ off ≤ j1 ∧ j1 < off + vl.length
    · have hr := iff.2 hin
      obtain ⟨rfl, h9, h10⟩ := hin
      have hk : j1 - off < vl.length := by omega
      obtain ⟨u, h11, h12⟩ := hv.get (List.getElem?_eq_getElem hk)
      refine ⟨u, ?_, ?_⟩
      · rw [List.getElem?_take, if_pos hidx, h6, List.append_assoc, List.getElem?_append_right (by omega), hlt0, List.getElem?_append_left (by omega)]
        rw [show i1 * e + j1 - (i1 * e + off) = j1 - off by omega]
        exact h11
      · rw [putRow_eq]
        rw [if_pos (by simp; omega)]
        have : vl.getD (j1 - off) .nilp = vl[j1 - off] := by simp [List.getD_eq_getElem?_getD, hk]
        rw [this]
        exact (RS_plain (List.all_eq_true.1 hn _ (List.getElem_mem hk)) h12).mono hst.read
    · have hr : ¬ (i * e + off ≤ i1 * e + j1 ∧ i1 * e + j1 < i * e + off + vl.length) := fun h => hin (iff.1 h)
      refine ⟨u0, ?_, ?_⟩
      · rw [List.getElem?_take, if_pos hidx, h6, List.append_assoc]
        by_cases hb1 : i1 * e + j1 < i * e + off
        · rw [List.getElem?_append_left (by omega), List.getElem?_take, if_pos hb1]
          simpa using h7'
        · rw [List.getElem?_append_right (by omega), hlt0, List.getElem?_append_right (by omega), List.getElem?_drop]
          rw [show i * e + off + vs.length + (i1 * e + j1 - (i * e + off) - vs.length) = i1 * e + j1 by omega]
          simpa using h7'
      · rw [putRow_eq]
        rw [if_neg (by simpa using fun h => fun h' => Nat.not_lt.1 (fun h'' => hin ⟨h, h', h''⟩))]
        exact h8.mono hst.read
/-- A new row, of a slice literal. -/
theorem new_row (hI : Inv nb w F β H) {o t e n : Nat} {l : List PS} {H' : Heap} (ho : o < nb) {c : Array Value} (hc : All2 (RS w F β) l c.toList) (hl : l.all noPtr = true) (hlen : l.length = n * e) (hmax : n ≤ maxLen) (h : newH H o (.rows t e n (litRow e l)) = some H') :
    Inv nb { w with heap := w.heap.push (.cells c t) } F (putB β o (.slice (some ⟨w.heap.size, 0, none⟩) n n)) H' ∧ Run (fun x => x != o) w F β H { w with heap := w.heap.push (.cells c t) } F (putB β o (.slice (some ⟨w.heap.size, 0, none⟩) n n)) H' :=
  new_ok hI ho (fun b hb => Blk_eq (k := w.heap.size) rfl hb ▸ by simp) (push_cls w _) h (fun hst _ => ⟨_, c.toList, putB_same _ _ _, ⟨by rw [← hc.length, hlen], .inr ⟨w.heap.size, n, c, rfl, Nat.zero_le _, by simp, Nat.le_refl _, hmax, by have := hc.length; simp at this; omega, by rw [List.take_of_length_le (by have := hc.length; omega)]⟩⟩, fun i j hi hj => by
    have hk : i * e + j < l.length := by rw [hlen]; exact row_lt hi hj
    obtain ⟨u, h1, h2⟩ := hc.get (List.getElem?_eq_getElem hk)
    refine ⟨u, h1, ?_⟩
    rw [litRow_at hlen hi hj]
    have : l.getD (i * e + j) .nilp = l[i * e + j] := by simp [List.getD_eq_getElem?_getD, hk]
    rw [this]
    exact (RS_plain (List.all_eq_true.1 hl _ (List.getElem_mem hk)) h2).mono hst.read⟩)
end mem
end Go.Proofs.Ytobfnncpjkeloaa.Ev
